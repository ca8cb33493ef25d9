import Derived.Test.YtadhomdmbcldkaaGreatDoorJ4
import Derived.Lib.Bytealg
import Derived.Lib.BytesEntry
import Derived.Sort.Grow
import Derived.Sort.OwnSorted
import Derived.Shelf.SlSortCmp.WholeK
import Derived.Shelf.SlSortCmp.NoneTotal
set_option linter.unusedSimpArgs false
open Go.Proofs.Tryz
set_option maxRecDepth 100000
open Go Go.Sl Go.MapKept Go.RowKit
open Go.Proofs.YtadhomdmbcldkaaGreatDoor Go.Proofs.Y
variable {w0 w:World}{R F L L':List aF}{v bv lv dv sv av:Value}{p b n c K m q sz d k gn:Nat}{ops:Array Oper}{a:Act}{dst:Option Tmp}{after:Array Edge}{x y:Operand}{P:Program}{rest:List Oper}{Q:Exit->Act->World->Prop}{T ty:TypeId}{s:Int×Int}{cs:Array Value}{xs:List Value}{α:Type}{f:α->List Value}
theorem yK0{p:Prop} (h:p:=by rw [abA,gB];kernel_rfl):p:=h
theorem yN0{p:Prop} (h:p:=by rw [gB];kernel_rfl):p:=h
theorem yQ0{p:Prop} (h:p:=by rw [aP,Hxk.o];kernel_rfl):p:=h
theorem zC0{p:Prop} (h:p:=by rw [abA,gB];rfl):p:=h
theorem zF0{p:Prop} (h:p:=by rw [aP,Hk.o];kernel_rfl):p:=h
theorem zN0{p:Prop} (h:p:=by rw [aeh];exact hj):p:=h
namespace Go.Proofs.Y
open Go.ak
section
variable {t:TypeId}{pos:String}{vx vy:Value}{ad:Addr}{fl:Nat}{bo:BinOp}{tz:TypeId}{g:Option (Nat × Bool)}
end
end Go.Proofs.Y
set_option linter.unusedVariables false
set_option maxHeartbeats 128000000
namespace Go.ak
structure Cal where
 kind:Int
 name:ByteArray
 to:ByteArray
 n:Int
 m:Int
 b:Bs
 l:List Int
def vT (m:Int):UInt8:=UInt8.ofNat (m%256).toNat
def ak.does (M:ak) (x:Cal):ak×(Bs×Int×Bool):=
 if x.kind=0 then ((M.create x.name).1,[],(M.create x.name).2,false)
 else if x.kind=1 then ((M.append x.name x.b).1,[],(M.append x.name x.b).2,false)
 else if x.kind=2 then ((M.truncate x.name x.n).1,[],(M.truncate x.name x.n).2,false)
 else if x.kind=3 then ((M.rename x.name x.to).1,[],(M.rename x.name x.to).2,false)
 else if x.kind=4 then ((M.remove x.name).1,[],(M.remove x.name).2,false)
 else if x.kind=5 then ((M.sync x.name).1,[],(M.sync x.name).2,false)
 else if x.kind=6 then (M.dH.1,[],M.dH.2,false)
 else if x.kind=7 then ((M.arm x.n).1,[],(M.arm x.n).2,false)
 else if x.kind=8 then (M.crash x.l,[],0,false)
 else if x.kind=9 then ((M.qw x.n).1,[],(M.qw x.n).2,false)
 else if x.kind=10 then ((M.jE x.name x.n (vT x.m)).1,[],0,(M.jE x.name x.n (vT x.m)).2)
 else (M,(M.read x.name x.n x.m).1,(M.read x.name x.n x.m).2,false)
theorem ak.agE {P:ak×Bs×Int×Bool->Prop}{M:ak}{x:Cal}
  (h0:x.kind=0->P ((M.create x.name).1,[],(M.create x.name).2,false))
  (h1:x.kind=1->P ((M.append x.name x.b).1,[],(M.append x.name x.b).2,false))
  (h2:x.kind=2->P ((M.truncate x.name x.n).1,[],(M.truncate x.name x.n).2,false))
  (h3:x.kind=3->P ((M.rename x.name x.to).1,[],(M.rename x.name x.to).2,false))
  (h4:x.kind=4->P ((M.remove x.name).1,[],(M.remove x.name).2,false))
  (h5:x.kind=5->P ((M.sync x.name).1,[],(M.sync x.name).2,false))
  (h6:x.kind=6->P (M.dH.1,[],M.dH.2,false))
  (h7:x.kind=7->P ((M.arm x.n).1,[],(M.arm x.n).2,false))
  (h8:x.kind=8->P (M.crash x.l,[],0,false))
  (h9:x.kind=9->P ((M.qw x.n).1,[],(M.qw x.n).2,false))
  (h10:x.kind=10->P ((M.jE x.name x.n (vT x.m)).1,[],0,(M.jE x.name x.n (vT x.m)).2))
  (hz:x.kind≠0/\x.kind≠1/\x.kind≠2/\x.kind≠3/\x.kind≠4/\x.kind≠5/\x.kind≠6/\x.kind≠7/\x.kind≠8/\x.kind≠9/\x.kind≠10->P (M,(M.read x.name x.n x.m).1,(M.read x.name x.n x.m).2,false)):P (M.does x):=by
 unfold ak.does;by_cases c0:x.kind=0;· rw [adU c0];exact h0 c0
 rw [abL c0];by_cases c1:x.kind=1;· rw [adU c1];exact h1 c1
 rw [abL c1];by_cases c2:x.kind=2;· rw [adU c2];exact h2 c2
 rw [abL c2];by_cases c3:x.kind=3;· rw [adU c3];exact h3 c3
 rw [abL c3];by_cases c4:x.kind=4;· rw [adU c4];exact h4 c4
 rw [abL c4];by_cases c5:x.kind=5;· rw [adU c5];exact h5 c5
 rw [abL c5];by_cases c6:x.kind=6;· rw [adU c6];exact h6 c6
 rw [abL c6];by_cases c7:x.kind=7;· rw [adU c7];exact h7 c7
 rw [abL c7];by_cases c8:x.kind=8;· rw [adU c8];exact h8 c8
 rw [abL c8];by_cases c9:x.kind=9;· rw [adU c9];exact h9 c9
 rw [abL c9];by_cases c10:x.kind=10;· rw [adU c10];exact h10 c10
 rw [abL c10];exact hz ⟨c0,c1,c2,c3,c4,c5,c6,c7,c8,c9,c10⟩
structure Quiet (M:ak):Prop where
 armed:M.armed=false
 off:M.off=false
 left:M.left=0
theorem Quiet.new (r:Nat):Quiet (new r):=⟨rfl,rfl,rfl⟩
theorem Quiet.step {M:ak} (h:Quiet M):M.step=(M,true):=by simp [ak.step,h.armed]
theorem Quiet.link {M:ak} (h:Quiet M) (x:gU):Quiet (M.link x):=⟨h.armed,h.off,h.left⟩
theorem Quiet.eP {M:ak} (h:Quiet M) (i:Nat) (f:aX):Quiet (M.eP i f):=⟨h.armed,h.off,h.left⟩
theorem Quiet.create {M:ak} (h:Quiet M) (s:ByteArray):Quiet (M.create s).1:=by
 unfold ak.create;rw [h.step];split;· exact h
 split;· exact h
 split;· exact h
 split;· exact h
 split;· exact h
 exact ⟨h.armed,h.off,h.left⟩
theorem Quiet.append {M:ak} (h:Quiet M) (s:ByteArray) (b:Bs):Quiet (M.append s b).1:=by
 unfold ak.append;rw [h.step];split;· exact h
 split;· exact h
 split;· exact h
 split;· exact h
 exact h.eP _ _
theorem Quiet.rename {M:ak} (h:Quiet M) (s t:ByteArray):Quiet (M.rename s t).1:=by
 unfold ak.rename;rw [h.step];split;· exact h
 split;· exact h
 split;· exact h
 split;· exact h
 exact h.link _
theorem Quiet.remove {M:ak} (h:Quiet M) (s:ByteArray):Quiet (M.remove s).1:=by
 unfold ak.remove;rw [h.step];split;· exact h
 split;· exact h
 split;· exact h
 exact h.link _
theorem Quiet.sync {M:ak} (h:Quiet M) (s:ByteArray):Quiet (M.sync s).1:=by
 unfold ak.sync;rw [h.step];split;· exact h
 split;· exact h
 split;· exact h
 exact h.eP _ _
theorem Quiet.dH {M:ak} (h:Quiet M):Quiet M.dH.1:=by
 unfold ak.dH;rw [h.step];split;· exact h
 split;· exact h
 exact ⟨h.armed,h.off,h.left⟩
theorem Quiet.acR {M:ak} (h:Quiet M){s:ByteArray}{i:Nat} (hs:bH M.now s=some i):M.sync s=(M.eP i (M.file i).sync,0):=by
 unfold ak.sync;rw [h.step,h.off,hs]
 rfl
theorem zx {M:ak}{i:Nat}{f:aX} (hi:i<M.files.length) (j:Nat):(M.eP i f).file j=if j=i then f else M.file j:=by
 unfold ak.eP ak.file;simp only [adV];split
 ·rename_i h;subst h;rw [apv hi];rfl
 ·rename_i h;rw [apE (Ne.symm h)]
theorem Quiet.Uj {M:ak} (h:Quiet M):M.dH=({ M with fast:=M.now,waits:=[] },0):=by
 unfold ak.dH;rw [h.step,abL (by rw [h.off];exact Bool.false_ne_true)];simp
theorem Quiet.list {M:ak} (h:Quiet M):M.list=M.now.map (·.1):=by unfold ak.list;rw [h.off];rfl
def tZ (M:ak):Prop:=(M.now.map (·.2)).Nodup
theorem UK {M:ak} (hs:oP M.now) (hd:tZ M){s:ByteArray}{i:Nat} (h:bH M.now s=some i) :
  (∀ p∈dS M.now s,p.2≠i)/\∀ g:Nat->Nat,(M.now.map λp=>g p.2).sum=g i+((dS M.now s).map λp=>g p.2).sum:=by
 have hp:=Rq hs.keys (ji h);constructor
 ·have hd':(M.now.map λp:ByteArray×Nat=>p.2).Nodup:=hd;have:=(hp.map (λp:ByteArray×Nat=>p.2)).nodup_iff.1 hd';simp only [aes,aoC]at this;intro p hp e;exact this.1 (adu.2 ⟨p,hp,e⟩)
 ·intro g;have:=(hp.map λp=>g p.2).sum_nat;simpa using this
theorem Uh {l:Names}{g h:Nat->Nat} (e:∀ p∈l,g p.2=h p.2):(l.map λp=>g p.2).sum=(l.map λp=>h p.2).sum:=by
 rw [aj6 e]
theorem adr {M:ak}{K:Nat} (ok:M.Ok K) (hd:tZ M){s:ByteArray}{i:Nat} (h:bH M.now s=some i) (f:aX) :
  (M.eP i f).used+(M.file i).now.length=M.used+f.now.length:=by
 obtain ⟨h1,h2⟩:=UK ok.fU.oM hd h;have hi:i<M.files.length:=ok.fU.ids _ (ji h);have e1:=h2 λj=>(M.file j).now.length;have e2:=h2 λj=>((M.eP i f).file j).now.length
 have e3:((dS M.now s).map λp=>((M.eP i f).file p.2).now.length).sum=((dS M.now s).map λp=>(M.file p.2).now.length).sum:=
  Uh (g:=λj=>((M.eP i f).file j).now.length) (h:=λj=>(M.file j).now.length) λp hp=>by rw [zx hi,abL (h1 p hp)]
 have e4:(M.eP i f).file i=f:=by rw [zx hi,adU rfl]
 simp only [e4,e3]at e2;show (M.now.map λp=>((M.eP i f).file p.2).now.length).sum+_=(M.now.map λp=>(M.file p.2).now.length).sum+_;rw [e1,e2];omega
theorem MF (l:Names) (s:ByteArray) (g:Nat->Nat):((dS l s).map λp=>g p.2).sum<=(l.map λp=>g p.2).sum:=by
 induction l with
 |nil=>exact ab1 _
 |cons p l ih=>
  unfold dS at ih ⊢;rw [ao5];split
  ·simp only [aes,apf];omega
  ·simp only [aes,apf];omega
theorem IB (l:Names) (s:ByteArray) (i:Nat) (g:Nat->Nat):((jR l s i).map λp=>g p.2).sum=g i+((dS l s).map λp=>g p.2).sum:=by
 have:=((wU l s i).map λp=>g p.2).sum_nat;simpa using this
theorem RQ {l:Names}{s:ByteArray}{i:Nat} (h:(l.map (·.2)).Nodup) (hi:∀ p∈l,p.2≠i):((jR l s i).map (·.2)).Nodup:=by
 refine ((wU l s i).map (·.2)).nodup_iff.2 ?_;simp only [aes,aoC];refine ⟨λhm=>?_,h.sublist (apx.map _)⟩;obtain ⟨p,hp,e⟩:=adu.1 hm;exact hi p (aex.1 hp).1 e
structure Fits (M M':ak):Prop where
 room:M'.room=M.room
 dst:tZ M'
 used:M'.used<=M'.room
theorem amT (M:ak):M.step.1.room=M.room/\M.step.1.now=M.now/\M.step.1.files=M.files:=⟨M.jf.1,M.jf.2.2.1,M.jf.2.2.2.1⟩
theorem Fits.self {M:ak} (hd:tZ M) (hu:M.used<=M.room):Fits M M:=⟨rfl,hd,hu⟩
theorem adq {M M':ak} (h1:M'.now=M.now) (h2:M'.files=M.files):M'.used=M.used:=by unfold ak.used ak.file;rw [h1,h2]
theorem Fits.alike {M M':ak} (hd:tZ M) (hu:M.used<=M.room) (hr:M'.room=M.room) (h1:M'.now=M.now) (h2:M'.files=M.files):Fits M M':=
 ⟨hr,by unfold tZ;rw [h1];exact hd,by rw [adq h1 h2,hr];exact hu⟩
theorem Fits.set {M M':ak}{K:Nat} (ok:M.Ok K) (hd:tZ M) (hu:M.used<=M.room) (hr:M'.room=M.room) (h1:M'.now=M.now) (h2:M'.files=M.files){s:ByteArray}{i:Nat} (h:bH M.now s=some i) (f:aX)
  (hf:M.used+f.now.length<=M.room+(M.file i).now.length):Fits M (M'.eP i f):=by
 have e:(M'.eP i f).used=(M.eP i f).used:=adq (by exact h1) (by show M'.files.set i f=M.files.set i f;rw [h2]);have:=adr ok hd h f;refine ⟨hr,by show (M'.now.map (·.2)).Nodup;rw [h1];exact hd,?_⟩;rw [e];show _<=M'.room;rw [hr];omega
theorem Fits.does {M:ak}{K:Nat} (ok:M.Ok K) (hd:tZ M) (hu:M.used<=M.room) (x:Cal) (h8:x.kind≠8) (h9:x.kind≠9) :
  Fits M (M.does x).1/\((M.does x).2.2.1=11->x.kind=1/\M.room<M.wu+x.b.length):=by
 have r:=Fits.self hd hu;obtain ⟨s1,s2,s3⟩:=amT M;have rs:Fits M M.step.1:=Fits.alike hd hu s1 s2 s3;refine ak.agE (P:=λq=>Fits M q.1/\(q.2.2.1=11->x.kind=1/\M.room<M.wu+x.b.length)) ?_ ?_ ?_ ?_ ?_ ?_ ?_ ?_ ?_ ?_ ?_ ?_
 ·intro _;show Fits M (M.create x.name).1/\((M.create x.name).2=11->_);unfold ak.create;split;· exact ⟨r,by simp⟩
  split;· exact ⟨r,by simp⟩
  rename_i hg;split;· exact ⟨r,by simp⟩
  rename_i hn;split;· exact ⟨r,by simp⟩
  split;· exact ⟨rs,by simp⟩
  refine ⟨?_,by simp⟩;have hnn:bH M.now x.name=none:=by simpa using hn
  have hlt:=ok.fU.ids;have hne:x.name≠ByteArray.empty:=tu (by simpa using hg);have zq:(({ M.step.1 with files:=M.files++[aX.new] }:ak).link ⟨ByteArray.empty,x.name,M.files.length⟩).now=jR M.now x.name M.files.length:=by
   show gU.on _ M.step.1.now=_;rw [s2];unfold gU.on;simp only [apc,abL hne]
  have hdel:=CJ hnn;refine ⟨s1,?_,?_⟩
  ·unfold tZ;rw [zq];exact RQ hd λp hp e=>by have:=hlt p hp;omega
  ·have:(({ M.step.1 with files:=M.files++[aX.new] }:ak).link ⟨ByteArray.empty,x.name,M.files.length⟩).used=M.used:=by
    show ((ak.now _).map λp=>(ak.file _ p.2).now.length).sum=_;rw [zq,IB _ _ _ (λj=>(ak.file _ j).now.length),hdel];have e0:((({ M.step.1 with files:=M.files++[aX.new] }:ak).link ⟨ByteArray.empty,x.name,M.files.length⟩).file M.files.length).now.length=0:=by
     simp [ak.file,ak.link,aX.new]
    rw [e0,aeE];refine Uh (g:=λj=>(ak.file _ j).now.length) (h:=λj=>(M.file j).now.length) λp hp=>?_;have:=hlt p hp;simp only [ak.file,ak.link,adV];rw [aek this]
   rw [this];show _<=M.step.1.room;rw [s1];exact hu
 ·intro hk1;show Fits M (M.append x.name x.b).1/\((M.append x.name x.b).2=11->_);unfold ak.append;split;· exact ⟨r,by simp⟩
  rename_i hoff;split;· exact ⟨r,by simp⟩
  rename_i i hi;split
  ·rename_i hfull;refine ⟨r,λ_=>⟨hk1,?_⟩⟩;have:M.wu=M.used:=by unfold ak.wu;rw [abL hoff]
   rw [this];omega
  rename_i hfull;split;· exact ⟨rs,by simp⟩
  refine ⟨Fits.set ok hd hu s1 s2 s3 hi _ ?_,by simp⟩;simp only [aX.do,gX.on,aip,ao7,aa7];omega
 ·intro _;show Fits M (M.truncate x.name x.n).1/\((M.truncate x.name x.n).2=11->_);unfold ak.truncate;split;· exact ⟨r,by simp⟩
  split;· exact ⟨r,by simp⟩
  rename_i i hi;split;· exact ⟨r,by simp⟩
  split;· exact ⟨rs,by simp⟩
  refine ⟨Fits.set ok hd hu s1 s2 s3 hi _ ?_,by simp⟩;simp only [aX.do,gX.on,apc,adt];omega
 ·intro _;show Fits M (M.rename x.name x.to).1/\((M.rename x.name x.to).2=11->_);unfold ak.rename;split;· exact ⟨r,by simp⟩
  split;· exact ⟨r,by simp⟩
  rename_i i hi;split;· exact ⟨r,by simp⟩
  rename_i hg;split;· exact ⟨rs,by simp⟩
  refine ⟨?_,by simp⟩;have hne:x.to≠ByteArray.empty:=tu (by simpa using hg);have hs:x.name≠ByteArray.empty:=ok.fU.ne _ (ji hi);obtain ⟨h1,h2⟩:=UK ok.fU.oM hd hi;have zq:(M.step.1.link ⟨x.name,x.to,i⟩).now=jR (dS M.now x.name) x.to i:=by
   show gU.on _ M.step.1.now=_;rw [s2];unfold gU.on;simp only [abL hs,abL hne]
  refine ⟨s1,?_,?_⟩
  ·unfold tZ;rw [zq];exact RQ (hd.sublist (apx.map _)) h1
  ·have e1:=h2 λj=>(M.file j).now.length;have e2:=MF (dS M.now x.name) x.to λj=>(M.file j).now.length;have:(M.step.1.link ⟨x.name,x.to,i⟩).used=((jR (dS M.now x.name) x.to i).map λp=>(M.file p.2).now.length).sum:=by
    show ((ak.now _).map λp=>(ak.file _ p.2).now.length).sum=_;rw [zq];unfold ak.file ak.link;simp only [s3]
   rw [this,IB _ _ _ (λj=>(M.file j).now.length)];show _<=M.step.1.room;rw [s1];unfold ak.used at hu;omega
 ·intro _;show Fits M (M.remove x.name).1/\((M.remove x.name).2=11->_);unfold ak.remove;split;· exact ⟨r,by simp⟩
  split;· exact ⟨r,by simp⟩
  rename_i i hi;split;· exact ⟨rs,by simp⟩
  refine ⟨?_,by simp⟩;have hs:x.name≠ByteArray.empty:=ok.fU.ne _ (ji hi);have zq:(M.step.1.link ⟨x.name,ByteArray.empty,0⟩).now=dS M.now x.name:=by
   show gU.on ⟨x.name,ByteArray.empty,0⟩ M.step.1.now=_;rw [s2];unfold gU.on;simp only [abL hs,apc]
  refine ⟨s1,?_,?_⟩
  ·unfold tZ;rw [zq];exact hd.sublist (apx.map _)
  ·have e2:=MF M.now x.name λj=>(M.file j).now.length;have:(M.step.1.link ⟨x.name,ByteArray.empty,0⟩).used=((dS M.now x.name).map λp=>(M.file p.2).now.length).sum:=by
    show ((ak.now _).map λp=>(ak.file _ p.2).now.length).sum=_;rw [zq];unfold ak.file ak.link;simp only [s3]
   rw [this];show _<=M.step.1.room;rw [s1];unfold ak.used at hu;omega
 ·intro _;show Fits M (M.sync x.name).1/\((M.sync x.name).2=11->_);unfold ak.sync;split;· exact ⟨r,by simp⟩
  split;· exact ⟨r,by simp⟩
  rename_i i hi;split;· exact ⟨rs,by simp⟩
  refine ⟨Fits.set ok hd hu s1 s2 s3 hi _ ?_,by simp⟩;simp only [aX.sync];omega
 ·intro _;show Fits M M.dH.1/\(M.dH.2=11->_);unfold ak.dH;split;· exact ⟨r,by simp⟩
  split;· exact ⟨rs,by simp⟩
  exact ⟨Fits.alike hd hu s1 s2 s3,by simp⟩
 ·intro _;show Fits M (M.arm x.n).1/\((M.arm x.n).2=11->_);unfold ak.arm;split;· exact ⟨r,by simp⟩
  split;· exact ⟨r,by simp⟩
  exact ⟨Fits.alike hd hu rfl rfl rfl,by simp⟩
 ·exact λh=>absurd h h8
 ·exact λh=>absurd h h9
 ·intro _;refine ⟨?_,λh=>by simp at h⟩;show Fits M (M.jE x.name x.n (vT x.m)).1;unfold ak.jE;split;· exact r
  rename_i i hi;split;· exact r
  refine Fits.set ok hd hu rfl rfl rfl hi _ ?_;rw [((ok.file i).jE _ _).2,Np];omega
 ·intro _;refine ⟨r,λh=>?_⟩;exfalso;have h':(M.read x.name x.n x.m).2=11:=h;unfold ak.read at h';revert h';split
  ·simp
  split
  ·simp
  simp only;split
  ·simp
  split
  ·simp
  ·simp
def ak.oL (m:ak) (s t:ByteArray) (gone:Bool):ak×Int:=
 if m.off then (m,12)
 else match bH m.now s with
 |none=>(m,9)
 |some i=>
  if gone=false/\good t=false then (m,7)
  else if m.step.2=false then (m.step.1,12)
  else (m.step.1.link ⟨s,if gone then ByteArray.empty else t,i⟩,0)
def ak.alm (D:ak) (l:List Int) (i:Nat) (p:ByteArray×Nat):aX:=(D.file p.2).crash (num l (2*i+1)) (num l (2*i+2))
def ak.yH (D:ak) (l:List Int):ak:=
 let ns:=D.iO (zh (num l 0) D.waits.length)
 { D with fast:=ns.mapIdx λi p=>(p.1,i),now:=ns.mapIdx λi p=>(p.1,i),waits:=[],files:=ns.mapIdx (D.alm l),off:=false,armed:=false,left:=0 }
def ak.told (D:ak) (x:Cal):ak×(Bs×Int×Bool):=
 if x.kind=0 then ((D.create x.name).1,[],(D.create x.name).2,false)
 else if x.kind=1 then ((D.append x.name x.b).1,[],(D.append x.name x.b).2,false)
 else if x.kind=2 then ((D.truncate x.name x.n).1,[],(D.truncate x.name x.n).2,false)
 else if x.kind=3 then ((D.oL x.name x.to false).1,[],(D.oL x.name x.to false).2,false)
 else if x.kind=4 then ((D.oL x.name ByteArray.empty true).1,[],(D.oL x.name ByteArray.empty true).2,false)
 else if x.kind=5 then ((D.sync x.name).1,[],(D.sync x.name).2,false)
 else if x.kind=6 then (D.dH.1,[],D.dH.2,false)
 else if x.kind=7 then ((D.arm x.n).1,[],(D.arm x.n).2,false)
 else if x.kind=8 then (D.yH x.l,[],0,false)
 else if x.kind=9 then ((D.qw x.n).1,[],(D.qw x.n).2,false)
 else if x.kind=10 then ((D.jE x.name x.n (vT x.m)).1,[],0,(D.jE x.name x.n (vT x.m)).2)
 else (D,(D.read x.name x.n x.m).1,(D.read x.name x.n x.m).2,false)
def ren (φ:Nat->Nat) (l:Names):Names:=l.map λp=>(p.1,φ p.2)
theorem ak9 (φ:Nat->Nat) (l:Names):(ren φ l).length=l.length:=by unfold ren;rw [abl]
theorem ak8 (φ:Nat->Nat) (l:Names) (s:ByteArray):bH (ren φ l) s=(bH l s).map φ:=by
 unfold bH ren;rw [List.find?_map,Option.map_map,Option.map_map]
 rfl
theorem abv (φ:Nat->Nat) (l:Names) (s:ByteArray):dS (ren φ l) s=ren φ (dS l s):=by
 unfold dS ren;rw [List.filter_map]
 rfl
theorem abw (φ:Nat->Nat) (s:ByteArray) (i:Nat):∀ l:Names,jo (ren φ l) s (φ i)=ren φ (jo l s i)
 |[]=>rfl
 |p::l=>by
  show jo ((p.1,φ p.2)::ren φ l) s (φ i)=ren φ (jo (p::l) s i);unfold jo;dsimp only;split
  ·rfl
  ·rw [abw φ s i l];rfl
theorem alb (φ:Nat->Nat) (l:Names) (s:ByteArray) (i:Nat):jR (ren φ l) s (φ i)=ren φ (jR l s i):=by
 unfold jR;rw [abv,abw]
theorem ala {φ:Nat->Nat}{x y:gU} (h1:y.fr=x.fr) (h2:y.to=x.to) (h3:x.to≠ByteArray.empty->y.f=φ x.f) (l:Names):y.on (ren φ l)=ren φ (x.on l):=by
 unfold gU.on;rw [h1,h2];have e:(if x.fr=ByteArray.empty then ren φ l else dS (ren φ l) x.fr)=ren φ (if x.fr=ByteArray.empty then l else dS l x.fr):=by
  split
  ·rfl
  ·exact abv _ _ _
 dsimp only;rw [e];split
 ·rfl
 ·rename_i ht;rw [h3 ht,alb]
theorem ak7 {φ ψ:Nat->Nat}{l:Names} (h:∀ p∈l,φ p.2=ψ p.2):ren φ l=ren ψ l:=by
 unfold ren;exact aj6 λp hp=>by rw [h p hp]
structure Side (φ:Nat->Nat) (L:Nat->Prop) (M D:ak):Prop where
 room:D.room=M.room
 armed:D.armed=M.armed
 left:D.left=M.left
 off:D.off=M.off
 wl:D.waits.length=M.waits.length
 now:D.now=ren φ M.now
 names:∀ k,k<=M.waits.length->D.iO k=ren φ (M.iO k)
 live:∀ k,k<=M.waits.length->∀ p∈M.iO k,L p.2
 once:∀ k,k<=M.waits.length->((M.iO k).map (·.2)).Nodup
 inj:∀ i j,L i->L j->φ i=φ j->i=j
 file:∀ i,L i->D.file (φ i)=M.file i
 lt:∀ i,L i->φ i<D.files.length
 ml:∀ i,L i->i<M.files.length
theorem Side.new (r:Nat):Side id (λ_=>False) (new r) (new r):=
 ⟨rfl,rfl,rfl,rfl,rfl,rfl,(λk hk=>by simp [ak.new]at hk;subst hk;rfl),(λk hk p hp=>by simp [ak.new]at hk;subst hk;simp [ak.new,ak.iO]at hp),(λk hk=>by simp [ak.new]at hk;subst hk;exact List.nodup_nil),λ_ _ h=>h.elim,λ_ h=>h.elim,λ_ h=>h.elim,λ_ h=>h.elim⟩
theorem amU {M D:ak} (h1:D.armed=M.armed) (h2:D.left=M.left) (h3:D.off=M.off):D.step.1.armed=M.step.1.armed/\D.step.1.left=M.step.1.left/\D.step.1.off=M.step.1.off:=by
 obtain ⟨room,fast,now,files,waits,armed,left,off⟩:=M;obtain ⟨room',aoQ,now',files',apb,afo,left',off'⟩:=D;simp only at h1 h2 h3;subst h1;subst h2;subst h3;unfold ak.step;dsimp only;cases afo
 ·exact ⟨rfl,rfl,rfl⟩
 ·simp only [apc];by_cases hz:left'=0
  ·simp only [hz,apc];exact ⟨trivial,trivial,trivial⟩
  ·simp only [hz,ao7];exact ⟨trivial,trivial,trivial⟩
section
variable {φ:Nat->Nat}{L:Nat->Prop}{M D:ak}{K:Nat}
theorem Side.step2 (h:Side φ L M D):D.step.2=M.step.2:=by
 unfold ak.step;rw [h.armed,h.left];split
 ·split <;> rfl
 ·rfl
theorem Side.step (h:Side φ L M D):Side φ L M.step.1 D.step.1:=by
 have hM:=M.jf;have hD:=D.jf;obtain ⟨a1,a2,a3,a4,a5⟩:=hM;obtain ⟨b1,b2,b3,b4,b5⟩:=hD;have f1:∀ k,M.step.1.iO k=M.iO k:=λk=>by unfold ak.iO;rw [a5,a2]
 have f2:∀ k,D.step.1.iO k=D.iO k:=λk=>by unfold ak.iO;rw [b5,b2]
 have g1:∀ k,M.step.1.file k=M.file k:=λk=>by unfold ak.file;rw [a4]
 have g2:∀ k,D.step.1.file k=D.file k:=λk=>by unfold ak.file;rw [b4]
 have hal:=amU h.armed h.left h.off;exact ⟨by rw [a1,b1];exact h.room,hal.1,hal.2.1,hal.2.2,by rw [a5,b5];exact h.wl,by rw [a3,b3];exact h.now,λk hk=>by rw [f1,f2];rw [a5]at hk;exact h.names k hk,λk hk=>by rw [f1];rw [a5]at hk;exact h.live k hk,λk hk=>by rw [f1];rw [a5]at hk;exact h.once k hk,h.inj,λi hi=>by rw [g1,g2];exact h.file i hi,λi hi=>by rw [b4];exact h.lt i hi,λi hi=>by rw [a4];exact h.ml i hi⟩
theorem Side.eP (h:Side φ L M D){i:Nat} (hi:L i) (f:aX):Side φ L (M.eP i f) (D.eP (φ i) f):=by
 have hD:(D.eP (φ i) f).files.length=D.files.length:=by simp [ak.eP]
 have hM:(M.eP i f).files.length=M.files.length:=by simp [ak.eP]
 refine ⟨h.room,h.armed,h.left,h.off,h.wl,h.now,h.names,h.live,h.once,h.inj,λj hj=>?_,λj hj=>by rw [hD];exact h.lt j hj,λj hj=>by rw [hM];exact h.ml j hj⟩;rw [zx (h.lt i hi),zx (h.ml i hi)];by_cases e:j=i
 ·subst e;rw [adU rfl,adU rfl]
 ·rw [abL e,abL λe2=>e (h.inj j i hj hi e2)];exact h.file j hj
theorem Side.link (h:Side φ L M D) (ok:M.now=M.iO M.waits.length){x y:gU} (h1:y.fr=x.fr) (h2:y.to=x.to) (h3:x.to≠ByteArray.empty->y.f=φ x.f) (hl:∀ p∈x.on M.now,L p.2) (hn:((x.on M.now).map (·.2)).Nodup) :
  Side φ L (M.link x) (D.link y):=by
 have hM:(M.link x).waits.length=M.waits.length+1:=by simp [ak.link]
 have hD:(D.link y).waits.length=D.waits.length+1:=by simp [ak.link]
 have okD:D.now=D.iO D.waits.length:=by rw [h.now,h.wl,h.names _ (ab1 _),ok]
 have hon:y.on D.now=ren φ (x.on M.now):=by rw [h.now];exact ala h1 h2 h3 _
 have key:∀ k,k<=(M.link x).waits.length->(k<=M.waits.length/\(M.link x).iO k=M.iO k/\(D.link y).iO k=D.iO k)\/((M.link x).iO k=x.on M.now/\(D.link y).iO k=y.on D.now):=by
  intro k hk;rw [hM]at hk;rcases aiN k (M.waits.length+1) with hlt|hge
  ·exact .inl ⟨by omega,M.QV x k oQ,D.QV y k (by rw [h.wl];omega)⟩
  ·obtain rfl:k=M.waits.length+1:=by omega
   refine .inr ⟨M.KD x ok,?_⟩;rw [<-h.wl];exact D.KD y okD
 refine ⟨h.room,h.armed,h.left,h.off,by rw [hM,hD,h.wl],hon,λk hk=>?_,λk hk=>?_,λk hk=>?_,h.inj,h.file,h.lt,h.ml⟩
 ·rcases key k hk with ⟨a,b,c⟩|⟨a,b⟩
  ·rw [b,c];exact h.names k a
  ·rw [a,b];exact hon
 ·rcases key k hk with ⟨a,b,c⟩|⟨a,b⟩
  ·rw [b];exact h.live k a
  ·rw [a];exact hl
 ·rcases key k hk with ⟨a,b,c⟩|⟨a,b⟩
  ·rw [b];exact h.once k a
  ·rw [a];exact hn
theorem Side.Rt (h:Side φ L M D) (ok:M.now=M.iO M.waits.length):Side (λi=>if i=M.files.length then D.files.length else φ i) (λi=>L i\/i=M.files.length) { M with files:=M.files++[aX.new] } { D with files:=D.files++[aX.new] }:=by
 have hne:∀ i,L i->i≠M.files.length:=λi hi=>Nat.ne_of_lt (h.ml i hi);have hr:∀ l:Names,(∀ p∈l,L p.2)->ren (λi=>if i=M.files.length then D.files.length else φ i) l=ren φ l:=λl hl=>ak7 λp hp=>abL (hne _ (hl p hp));have hlM:∀ k,({ M with files:=M.files++[aX.new] }:ak).iO k=M.iO k:=λ_=>rfl;have hlD:∀ k,({ D with files:=D.files++[aX.new] }:ak).iO k=D.iO k:=λ_=>rfl;have fM:∀ i,i≠M.files.length->({ M with files:=M.files++[aX.new] }:ak).file i=M.file i:=by
  intro i hi;unfold ak.file;dsimp only;rw [adV,adV];rcases aiN i M.files.length with a|a
  ·rw [aek a]
  ·rw [aiT yT0,aiT a]
 have fD:∀ i,i<D.files.length->({ D with files:=D.files++[aX.new] }:ak).file i=D.file i:=by
  intro i hi;unfold ak.file;dsimp only;rw [adV,adV,aek hi]
 refine ⟨h.room,h.armed,h.left,h.off,h.wl,?_,λk hk=>?_,λk hk p hp=> .inl (h.live k hk p hp),h.once,?_,?_,?_,?_⟩
 ·show D.now=ren _ M.now;rw [hr _ (by rw [ok];exact h.live _ (ab1 _))];exact h.now
 ·rw [hlD,hlM,hr _ (h.live k hk)];exact h.names k hk
 ·intro i j hi hj e;rcases hi with hi|rfl
  ·rw [abL (hne i hi)]at e;rcases hj with hj|rfl
   ·rw [abL (hne j hj)]at e;exact h.inj i j hi hj e
   ·rw [adU rfl]at e;have:=h.lt i hi;omega
  ·rw [adU rfl]at e;rcases hj with hj|rfl
   ·rw [abL (hne j hj)]at e;have:=h.lt j hj;omega
   ·rfl
 ·intro i hi;rcases hi with hi|rfl
  ·rw [abL (hne i hi),fM i (hne i hi),fD _ (h.lt i hi)];exact h.file i hi
  ·rw [adU rfl];unfold ak.file;simp
 ·intro i hi;dsimp only;rcases hi with hi|rfl
  ·rw [abL (hne i hi)];have:=h.lt i hi;simp;omega
  ·rw [adU rfl];simp
 ·intro i hi;rcases hi with hi|rfl
  ·have:=h.ml i hi;simp;omega
  ·simp
end
section
variable {φ:Nat->Nat}{L:Nat->Prop}{M D:ak}{K:Nat}
theorem Side.get (h:Side φ L M D) (s:ByteArray):bH D.now s=(bH M.now s).map φ:=by rw [h.now,ak8]
theorem Side.KX (h:Side φ L M D) (ok:M.Ok K):∀ p∈M.now,L p.2:=by rw [ok.now];exact h.live _ (ab1 _)
theorem Side.aht (h:Side φ L M D) (ok:M.Ok K){s:ByteArray}{i:Nat} (hi:bH M.now s=some i):L i:=h.KX ok _ (ji hi)
theorem Side.ajZ (h:Side φ L M D) (ok:M.Ok K):(M.now.map (·.2)).Nodup:=by rw [ok.now];exact h.once _ (ab1 _)
theorem Side.used (h:Side φ L M D) (ok:M.Ok K):D.used=M.used:=by
 unfold ak.used;rw [h.now];unfold ren;rw [ahU]
 congr 1
 refine aj6 λp hp=>?_;show (D.file (φ p.2)).now.length=_;rw [h.file _ (h.KX ok p hp)]
def Both (r q:ak×Int):Prop:=r.2=q.2/\∃ φ L,Side φ L r.1 q.1
theorem Both.same (h:Side φ L M D) (e:Int):Both (M,e) (D,e):=⟨rfl,φ,L,h⟩
theorem Side.create (h:Side φ L M D) (ok:M.Ok K) (s:ByteArray):Both (M.create s) (D.create s):=by
 unfold ak.create;rw [h.off,h.get,Option.isSome_map,h.step2,h.now,ak9];split;· exact .same h _
 split;· exact .same h _
 rename_i hg;split;· exact .same h _
 rename_i hn;split;· exact .same h _
 split;· exact .same h.step _
 have hg':good s=true:=by simpa using hg
 have hn':bH M.now s=none:=by simpa using hn
 have hst:=h.step;have Ig:=ok.step;obtain ⟨e1,e2,e3,e4,e5⟩:=M.jf;obtain ⟨_,_,_,d4,_⟩:=D.jf;have h1:=hst.Rt Ig.now;rw [e4,d4]at h1;refine ⟨rfl,_,_,h1.link (x:=⟨ByteArray.empty,s,M.files.length⟩) (y:=⟨ByteArray.empty,s,D.files.length⟩) Ig.now rfl rfl (λ_=>(adU rfl).symm) ?_ ?_⟩
 ·intro p hp;have hp':p∈jR M.step.1.now s M.files.length:=by
   have:(gU.mk ByteArray.empty s M.files.length).on M.step.1.now=jR M.step.1.now s M.files.length:=by
    unfold gU.on;simp only [apc,abL (tu hg')]
   rw [<-this];exact hp
  rcases ad9.1 ((wU _ _ _).mem_iff.1 hp') with rfl|hp
  ·exact .inr rfl
  ·exact .inl (hst.KX Ig p (aex.1 hp).1)
 ·show (((gU.mk ByteArray.empty s M.files.length).on M.step.1.now).map (·.2)).Nodup;unfold gU.on;simp only [apc,abL (tu hg')];refine RQ (hst.ajZ Ig) λp hp e=>?_;have:=hst.ml _ (hst.KX Ig p hp);rw [e4,e]at this;exact Nat.lt_irrefl _ this
theorem Side.append (h:Side φ L M D) (ok:M.Ok K) (s:ByteArray) (b:Bs):Both (M.append s b) (D.append s b):=by
 unfold ak.append;rw [h.off,h.get,h.step2,h.room,h.used ok];split;· exact .same h _
 cases hi:bH M.now s with
 |none=>exact .same h _
 |some i=>
  simp only [aiM];split;· exact .same h _
  split;· exact .same h.step _
  have hL:=h.aht ok hi;rw [h.file i hL];exact .same (h.step.eP hL _) _
end
theorem ak.Ok.oL {K:Nat}{m:ak} (h:m.Ok K) (s t:ByteArray) (gone:Bool):(m.oL s t gone).1.Ok (K+1):=by
 cases gone with
 |false=>
  have e:m.oL s t false=m.rename s t:=by
   unfold ak.oL ak.rename;cases m.off
   ·cases bH m.now s
    ·rfl
    ·simp
   ·rfl
  rw [e];exact h.rename s t
 |true=>
  unfold ak.oL;have h':=h.mono (aiL K);split;· exact h'
  split;· exact h'
  rename_i i hi;simp only [Bool.true_eq_false,false_and,ao7,apc];split;· exact h'.step
  obtain ⟨e1,e2,e3,e4,e5⟩:=m.jf;refine h.step.link _ (λhh=>absurd rfl hh) ?_;rw [e3,e4];unfold gU.on;have hs:s≠ByteArray.empty:=h.fU.ne _ (ji hi);simp only [abL hs,apc];exact h.fU.del s
theorem ak.Ok.yH {K:Nat}{m:ak} (h:m.Ok K) (l:List Int):(m.yH l).Ok K:=by
 unfold ak.yH;have hk:=Pg (num l 0) m.waits.length;generalize zh (num l 0) m.waits.length=k at *
 have hn:=h.names k hk;generalize m.iO k=ns at *
 have hlast:pq ns.length (ns.mapIdx λi p=>(p.1,i)):=by
  have hkeys:(ns.mapIdx λi p=>(p.1,i)).map (·.1)=ns.map (·.1):=by
   apply apV;intro j;rw [ad1,List.getElem?_mapIdx,ad1];cases ns[j]? <;> rfl
  have hmem:∀ p∈(ns.mapIdx λi p=>(p.1,i)),p.2<ns.length/\∃ q∈ns,q.1=p.1:=by
   intro p hp;obtain ⟨i,hi,rfl⟩:=List.mem_mapIdx.1 hp;exact ⟨hi,_,apn hi,rfl⟩
  refine ⟨?_,by rw [List.length_mapIdx];exact hn.len,λp hp=>(hmem p hp).1,λp hp=>?_⟩
  ·have h1:(ns.map (·.1)).Pairwise λa b=>lt a b=true:=by rw [ahB];exact hn.oM
   rw [<-hkeys,ahB]at h1;exact h1
  ·obtain ⟨_,q,hq,e⟩:=hmem p hp;rw [<-e];exact hn.ne q hq
 dsimp only;refine ⟨h.room,ad4 _,(λx hx=>by cases hx),λj hj=>?_,rfl,λf hf=>?_,ad4 _⟩
 ·have hj0:j=0:=by simpa using hj
  subst hj0;show pq (ns.mapIdx _).length (ns.mapIdx λi p=>(p.1,i));rw [List.length_mapIdx];exact hlast
 ·obtain ⟨i,hi,rfl⟩:=List.mem_mapIdx.1 hf;exact (h.file _).crash _ _
theorem ak.Uo {P:ak×Bs×Int×Bool->Prop}{M:ak}{x:Cal}
  (h0:x.kind=0->P ((M.create x.name).1,[],(M.create x.name).2,false))
  (h1:x.kind=1->P ((M.append x.name x.b).1,[],(M.append x.name x.b).2,false))
  (h2:x.kind=2->P ((M.truncate x.name x.n).1,[],(M.truncate x.name x.n).2,false))
  (h3:x.kind=3->P ((M.oL x.name x.to false).1,[],(M.oL x.name x.to false).2,false))
  (h4:x.kind=4->P ((M.oL x.name ByteArray.empty true).1,[],(M.oL x.name ByteArray.empty true).2,false))
  (h5:x.kind=5->P ((M.sync x.name).1,[],(M.sync x.name).2,false))
  (h6:x.kind=6->P (M.dH.1,[],M.dH.2,false))
  (h7:x.kind=7->P ((M.arm x.n).1,[],(M.arm x.n).2,false))
  (h8:x.kind=8->P (M.yH x.l,[],0,false))
  (h9:x.kind=9->P ((M.qw x.n).1,[],(M.qw x.n).2,false))
  (h10:x.kind=10->P ((M.jE x.name x.n (vT x.m)).1,[],0,(M.jE x.name x.n (vT x.m)).2))
  (hz:x.kind≠0/\x.kind≠1/\x.kind≠2/\x.kind≠3/\x.kind≠4/\x.kind≠5/\x.kind≠6/\x.kind≠7/\x.kind≠8/\x.kind≠9/\x.kind≠10->P (M,(M.read x.name x.n x.m).1,(M.read x.name x.n x.m).2,false)):P (M.told x):=by
 unfold ak.told;by_cases c0:x.kind=0;· rw [adU c0];exact h0 c0
 rw [abL c0];by_cases c1:x.kind=1;· rw [adU c1];exact h1 c1
 rw [abL c1];by_cases c2:x.kind=2;· rw [adU c2];exact h2 c2
 rw [abL c2];by_cases c3:x.kind=3;· rw [adU c3];exact h3 c3
 rw [abL c3];by_cases c4:x.kind=4;· rw [adU c4];exact h4 c4
 rw [abL c4];by_cases c5:x.kind=5;· rw [adU c5];exact h5 c5
 rw [abL c5];by_cases c6:x.kind=6;· rw [adU c6];exact h6 c6
 rw [abL c6];by_cases c7:x.kind=7;· rw [adU c7];exact h7 c7
 rw [abL c7];by_cases c8:x.kind=8;· rw [adU c8];exact h8 c8
 rw [abL c8];by_cases c9:x.kind=9;· rw [adU c9];exact h9 c9
 rw [abL c9];by_cases c10:x.kind=10;· rw [adU c10];exact h10 c10
 rw [abL c10];exact hz ⟨c0,c1,c2,c3,c4,c5,c6,c7,c8,c9,c10⟩
theorem ak.Ok.told {K:Nat}{M:ak} (h:M.Ok K) (x:Cal) (hn:x.n<=9223372036854775807):(M.told x).1.Ok (K+1):=by
 have h':=h.mono (aiL K);refine ak.Uo (P:=λr=>r.1.Ok (K+1)) ?_ ?_ ?_ ?_ ?_ ?_ ?_ ?_ ?_ ?_ ?_ ?_
 ·exact λ_=>h.create _
 ·exact λ_=>h.append _ _
 ·exact λ_=>h.truncate _ _
 ·exact λ_=>h.oL _ _ _
 ·exact λ_=>h.oL _ _ _
 ·exact λ_=>h.sync _
 ·exact λ_=>h.dH.mono (aiL K)
 ·exact λ_=>(h.arm _ hn).mono (aiL K)
 ·exact λ_=>(h.yH _).mono (aiL K)
 ·exact λ_=>(h.qw _).mono (aiL K)
 ·exact λ_=>h.jE _ _ _
 ·exact λ_=>h'
def aX.Small (f:aX):Prop:=∀ c∈f.waits,c.b.length<=16777216
def ak.Small (m:ak):Prop:=∀ f∈m.files,f.Small
theorem ak.Small.file {m:ak} (h:m.Small) (i:Nat):(m.file i).Small:=by
 unfold ak.file;rcases aiN i m.files.length with hi|hi
 ·rw [adV,aaJ hi];exact h _ (apn hi)
 ·rw [adV,aiT hi];intro c hc;cases hc
theorem ak.Small.step {m:ak} (h:m.Small):m.step.1.Small:=by
 intro f hf;rw [m.jf.2.2.2.1]at hf;exact h f hf
theorem ak.Small.eP {m:ak} (h:m.Small) (i:Nat){f:aX} (hf:f.Small):(m.eP i f).Small:=by
 intro g hg;rcases ajr hg with hg|rfl
 ·exact h g hg
 ·exact hf
theorem aX.Small.do {f:aX} (h:f.Small){c:gX} (hc:c.b.length<=16777216):(f.do c).Small:=by
 intro d hd;rcases aeQ.1 hd with hd|hd
 ·exact h d hd
 ·rw [aeG.1 hd];exact hc
theorem aX.Small.jE {f:aX} (h:f.Small) (i:Nat) (y:UInt8):(f.jE i y).Small:=by
 unfold aX.jE;rcases Tm f i y f.waits.length (ab1 _) with ⟨h1,h2⟩|⟨j,c,hj,hc,hcut,hl,h1,h2⟩
 ·rw [h1];exact h
 ·rw [h1];intro d hd;rcases ajr hd with hd|rfl
  ·exact h d hd
  ·rw [Np];exact h c (acr hc)
theorem ak.Small.told {K:Nat}{M:ak} (h:M.Small) (ok:M.Ok K) (x:Cal):(M.told x).1.Small:=by
 have hst:=h.step;have hmv:∀ s t g,(M.oL s t g).1.Small:=by
  intro s t g;unfold ak.oL;split;· exact h
  split;· exact h
  split;· exact h
  split;· exact hst
  exact hst
 refine ak.Uo (P:=λr=>r.1.Small) ?_ ?_ ?_ ?_ ?_ ?_ ?_ ?_ ?_ ?_ ?_ ?_
 ·intro _;show (M.create x.name).1.Small;unfold ak.create;split;· exact h
  split;· exact h
  split;· exact h
  split;· exact h
  split;· exact hst
  intro f hf;rcases aeQ.1 (show f∈M.files++[aX.new] from hf) with hf|hf
  ·exact h f hf
  ·rw [aeG.1 hf];intro c hc;cases hc
 ·intro _;show (M.append x.name x.b).1.Small;unfold ak.append;split;· exact h
  split;· exact h
  split;· exact h
  rename_i hf;split;· exact hst
  refine hst.eP _ ((h.file _).do ?_);have:=ok.room;simp only;omega
 ·intro _;show (M.truncate x.name x.n).1.Small;unfold ak.truncate;split;· exact h
  split;· exact h
  split;· exact h
  split;· exact hst
  exact hst.eP _ ((h.file _).do yF0)
 ·exact λ_=>hmv _ _ _
 ·exact λ_=>hmv _ _ _
 ·intro _;show (M.sync x.name).1.Small;unfold ak.sync;split;· exact h
  split;· exact h
  split;· exact hst
  exact hst.eP _ (λc hc=>by cases hc)
 ·intro _;show M.dH.1.Small;unfold ak.dH;split;· exact h
  split;· exact hst
  exact hst
 ·intro _;show (M.arm x.n).1.Small;unfold ak.arm;split;· exact h
  split;· exact h
  exact h
 ·intro _;show (M.yH x.l).Small;intro f hf;obtain ⟨i,hi,rfl⟩:=List.mem_mapIdx.1 (show f∈_ from hf);intro c hc;cases hc
 ·intro _;show (M.qw x.n).1.Small;unfold ak.qw;split;· exact h
  split;· exact h
  exact h
 ·intro _;show (M.jE x.name x.n (vT x.m)).1.Small;unfold ak.jE;split;· exact h
  split;· exact h
  exact h.eP _ ((h.file _).jE _ _)
 ·exact λ_=>h
theorem amW (m:ak):m.step.1.files.length=m.files.length:=by rw [m.jf.2.2.2.1]
theorem ant {K J:Nat}{M:ak} (h:M.Ok K) (hf:M.files.length<=500+J) (x:Cal):(M.told x).1.files.length<=500+(J+1):=by
 have hs:=amW M;have h':M.files.length<=500+(J+1):=oQ;have h'':M.step.1.files.length<=500+(J+1):=oQ;have hset:∀ i f,(M.step.1.eP i f).files.length<=500+(J+1):=λi f=>by unfold ak.eP;simp;omega
 have hmv:∀ s t g,(M.oL s t g).1.files.length<=500+(J+1):=by
  intro s t g;unfold ak.oL;split;· exact h'
  split;· exact h'
  split;· exact h'
  split;· exact h''
  exact h''
 refine ak.Uo (P:=λr=>r.1.files.length<=500+(J+1)) ?_ ?_ ?_ ?_ ?_ ?_ ?_ ?_ ?_ ?_ ?_ ?_
 ·intro _;show (M.create x.name).1.files.length<=_;unfold ak.create;split;· exact h'
  split;· exact h'
  split;· exact h'
  split;· exact h'
  split;· exact h''
  simp only [ak.link,aa7,ae3];omega
 ·intro _;show (M.append x.name x.b).1.files.length<=_;unfold ak.append;split;· exact h'
  split;· exact h'
  split;· exact h'
  split;· exact h''
  exact hset _ _
 ·intro _;show (M.truncate x.name x.n).1.files.length<=_;unfold ak.truncate;split;· exact h'
  split;· exact h'
  split;· exact h'
  split;· exact h''
  exact hset _ _
 ·exact λ_=>hmv _ _ _
 ·exact λ_=>hmv _ _ _
 ·intro _;show (M.sync x.name).1.files.length<=_;unfold ak.sync;split;· exact h'
  split;· exact h'
  split;· exact h''
  exact hset _ _
 ·intro _;show M.dH.1.files.length<=_;unfold ak.dH;split;· exact h'
  split;· exact h''
  exact h''
 ·intro _;show (M.arm x.n).1.files.length<=_;unfold ak.arm;split;· exact h'
  split;· exact h'
  exact h'
 ·intro _;show (M.yH x.l).files.length<=_;unfold ak.yH;simp only [List.length_mapIdx];have:=(h.names _ (Pg (num x.l 0) M.waits.length)).len;omega
 ·intro _;show (M.qw x.n).1.files.length<=_;unfold ak.qw;split;· exact h'
  split;· exact h'
  exact h'
 ·intro _;show (M.jE x.name x.n (vT x.m)).1.files.length<=_;unfold ak.jE;split;· exact h'
  split;· exact h'
  simp only [ak.eP,ahu];exact h'
 ·exact λ_=>h'
end Go.ak
namespace Go.Proofs.Y
open Go.ak
section
variable {o:Nat}{t ty T:Nat}{pos:String}
theorem an8 (i:Nat) (hs:Sat w0 w L) (hx:a.eval x=.pointer (some ⟨b,i,none⟩)) (hy:a.eval y=v) (u:pF (aC T sz (.slice (some ⟨b,0,none⟩) n c) xs) (aC T sz (.slice (some ⟨b,0,none⟩) n c) (xs.set i v)) L L')
  (hi:i<xs.length) (hty:(P.info? ty).map (·.size)=some 1) (h0:v.cells=#[v]) (h1:v.oneCell'=true)
  (hK:∀ w',Sat w0 w' L'->wpList P ops Q rest (a.put dst undef) w'):wpList P ops Q (⟨dst,.store ty x y,t,pos,after,none⟩::rest) a w:=by
 obtain ⟨R',h2,h3⟩:=u;have h:=hs.perm h2;rcases Sat.kL h with ⟨he,_⟩|⟨g',n',cap',cs,he,k1,k2,k3,k4,k5,k6⟩
 ·cases he
 ·cases he;have hlen:xs.length<=cs.size:=by rw [<-k5,adt,ad6];omega
  refine EX rfl ty x y rfl i v hx hy (by rw [h0];show i+1<=cs.size;omega) (by rw [h0];exact hty) (by rw [h0];simpa using h1) k6 λw' hS=>hK w' (Sat.perm ?_ h3.symm);rw [h0]at hS;refine Sat.kU hS (by rw [ahu];exact k1) k2 (by rw [lC];exact k3) k4 ?_;show (cs.setIfInBounds i v).toList.take _=_;rw [aoR,List.take_set,k5]
end
theorem acL:∀ (xs:List RF) (i:Nat) (x:RF),xs[i]?=some x->∃ G,stars (xs.map je)=star (je x) G/\∀ x',stars ((xs.set i x').map je)=star (je x') G
 |[],_,_,h=>by cases h
 |q::xs,0,x,h=>by
  cases h;exact ⟨stars (xs.map je),rfl,λx'=>rfl⟩
 |q::xs,i+1,x,h=>by
  obtain ⟨G,h1,h2⟩:=acL xs i x yL0;refine ⟨star (je q) G,?_,λx'=>?_⟩
  ·show star (je q) (stars (xs.map je))=_;rw [h1,xg]
  ·show star (je q) (stars ((xs.set i x').map je))=_;rw [h2 x',xg]
section
variable {i:Nat}{D:ak}{gV fv nv wv:Value}{xs:List RF}{x:RF}{g:qc}
end
def kY (xs:List Value) (i:Nat) (vs:List Value):List Value:=xs.take i++(vs++xs.drop (i+vs.length))
theorem zU (A B vs:List Value) (i:Nat):kY (A++B) (A.length+i) vs=A++kY B i vs:=by
 unfold kY;rw [List.take_length_add_append,apq,List.drop_length_add_append,ad2]
theorem abd {xs vs:List Value}{i:Nat} (h:i+vs.length<=xs.length):(kY xs i vs).length=xs.length:=by
 unfold kY;simp only [aa7,adt,adX];omega
section
variable {o:Nat}{t ty T:Nat}{pos:String}{vs:List Value}{K:Act->World->Prop}{E:Prop}
theorem abh {cs:Array Value}{i m:Nat} (hx:cs.toList.take m=xs) (hm:m<=cs.size) (hi:i+vs.length<=m):(eH cs i vs).toList.take m=kY xs i vs:=by
 subst hx;rw [mV _ _ _ oQ];have hl:(cs.toList.take i++vs).length=i+vs.length:=by rw [aa7,adt,ad6];omega
 unfold kY;rw [List.take_append,hl,adZ oQ,apO,apg oQ,List.drop_take,ad2]
theorem an9 (i:Nat) (hs:Sat w0 w L) (hx:a.eval x=.pointer (some ⟨b,i,none⟩)) (hy:a.eval y=v) (hv:v.cells.toList=vs) (u:pF (aC T sz (.slice (some ⟨b,0,none⟩) n c) xs) (aC T sz (.slice (some ⟨b,0,none⟩) n c) (kY xs i vs)) L L')
  (hi:i+vs.length<=xs.length) (hty:(P.info? ty).map (·.size)=some vs.length) (h1:vs.all (·.oneCell')=true)
  (hK:∀ w',Sat w0 w' L'->wpList P ops Q rest (a.put dst undef) w'):wpList P ops Q (⟨dst,.store ty x y,t,pos,after,none⟩::rest) a w:=by
 have hvs:v.cells.size=vs.length:=by rw [<-hv,ad6]
 obtain ⟨R',h2,h3⟩:=u;have h:=hs.perm h2;rcases Sat.kL h with ⟨he,_⟩|⟨g',n',cap',cs,he,k1,k2,k3,k4,k5,k6⟩
 ·cases he
 ·cases he;have hlen:xs.length<=cs.size:=by rw [<-k5,adt,ad6];omega
  have hm:n*sz<=cs.size:=adT (aiI _ k2) k3;refine EX rfl ty x y rfl i v hx hy (by rw [hvs];omega) (by rw [hvs];exact hty) (by rw [<-Array.all_toList,hv];exact h1) k6 λw' hS=>hK w' (Sat.perm ?_ h3.symm);refine Sat.kU hS (by rw [abd hi];exact k1) k2 (by rw [lC];exact k3) k4 ?_;rw [hv];exact abh k5 hm (by rw [<-k1];exact hi)
theorem D8 (i:Nat) (hs:Sat w0 w L) (hx:a.eval x=.pointer (some ⟨b,i,none⟩)) (hy:a.eval y=v) (hv:v.cells.toList=vs) (u:pF (aC T sz (.slice (some ⟨b,0,none⟩) n c) xs) (aC T sz (.slice (some ⟨b,0,none⟩) n c) (kY xs i vs)) L L')
  (hi:i+vs.length<=xs.length) (hty:(P.info? ty).map (·.size)=some vs.length) (h1:vs.all (·.oneCell')=true)
  (hK:∀ w',Sat w0 w' L'->K (a.put dst undef) w') :
  if Region.wanted ⟨dst,.store ty x y,t,pos,after,none⟩ (yielded ops a.tmps)=true then Oper.wp P ⟨dst,.store ty x y,t,pos,after,none⟩ a w K Q else E:=by
 have hvs:v.cells.size=vs.length:=by rw [<-hv,ad6]
 obtain ⟨R',h2,h3⟩:=u;have h:=hs.perm h2;rcases Sat.kL h with ⟨he,_⟩|⟨g',n',cap',cs,he,k1,k2,k3,k4,k5,k6⟩
 ·cases he
 ·cases he;have hlen:xs.length<=cs.size:=by rw [<-k5,adt,ad6];omega
  have hm:n*sz<=cs.size:=adT (aiI _ k2) k3;refine pI k6 hx hy (cs':=eH cs i vs) (by rw [hv]) bU (by rw [hvs];omega) (by rw [hvs];exact hty) (by rw [hv];exact h1) λw' hS=>hK w' (Sat.perm ?_ h3.symm);refine Sat.kU hS (by rw [abd hi];exact k1) k2 (by rw [lC];exact k3) k4 ?_;exact abh k5 hm (by rw [<-k1];exact hi)
end
theorem iK:∀ {l:List α},(∀ x∈l,(f x).length=k)->(l.flatMap f).length=k*l.length
 |[],_=>rfl
 |x::l,h=>by rw [aen,aa7,h x (.head _),iK λy hy=>h y (.tail _ hy),aev,Nat.mul_succ];omega
theorem LQ:∀ {l:List α}{i:Nat}{x:α}{j:Nat}{v:Value},(∀ x∈l,(f x).length=k)->l[i]?=some x->(f x)[j]?=some v->(l.flatMap f)[i*k+j]?=some v
 |[],_,_,_,_,_,h,_=>by cases h
 |y::l,0,x,j,v,hk,h,hj=>by
  obtain rfl:y=x:=by simpa using h
  rw [aen,Nat.zero_mul,aeE,aek (acZ.1 hj).1];exact hj
 |y::l,i+1,x,j,v,hk,h,hj=>by
  have h0:=hk y (.head _);rw [aen,Nat.succ_mul,aew oQ,h0,show i*k+k+j-k=i*k+j by omega];exact LQ (λz hz=>hk z (.tail _ hz)) yL0 hj
theorem Ir:∀ {l:List α}{i:Nat}{x:α},(∀ x∈l,(f x).length=k)->(f x).length=k->i<l.length->(l.set i x).flatMap f=kY (l.flatMap f) (i*k) (f x)
 |[],_,_,_,_,h=>by simp at h
 |y::l,0,x,hk,hx,h=>by
  have h0:=hk y (.head _);rw [List.set_cons_zero,aen,aen];unfold kY;rw [Nat.zero_mul,afC,aeV,aeE,hx,<-h0,List.drop_left]
 |y::l,i+1,x,hk,hx,h=>by
  have h0:=hk y (.head _);rw [List.set_cons_succ,aen,aen,Ir (λz hz=>hk z (.tail _ hz)) hx yL0,Nat.succ_mul,apX (i*k) k,<-h0,zU]
theorem Iq (n:Nat) (x:α):(List.replicate n x).flatMap f=(List.replicate n (f x)).flatten:=by
 induction n with
 |zero=>rfl
 |succ n ih=>rw [List.replicate_succ,aen,ih,List.replicate_succ,List.flatten_cons]
theorem iL {l:List α}{i:Nat}{x:α} (hk:∀ x∈l,(f x).length=k) (h:aW k v (l.flatMap f) w) (hi:l[i]?=some x) (h0:0<k) :
  ∃ bk off c,v=.slice (some ⟨bk,off,none⟩) l.length c/\∀ j y,(f x)[j]?=some y->w.cell? ⟨bk,off+i*k+j,none⟩=some y:=by
 obtain ⟨a,n,c,rfl,hl,hx⟩:=id h;rw [iK hk]at hl;have hfx:=hk x (acr hi);obtain rfl:n=l.length:=by
  rw [aiS]at hl;exact (Nat.eq_of_mul_eq_mul_right h0 hl).symm
 obtain ⟨y0,hy0⟩:∃ y,(f x)[0]?=some y:=⟨_,aaJ oQ⟩;have h1:=LQ hk hi hy0;obtain ⟨bk,off,rfl,hc⟩:=oJ h h1;exact ⟨bk,off,c,rfl,λj y hj=>by rw [apq];exact hc _ _ (LQ hk hi hj)⟩
theorem iP {l:List α} (hk:∀ x∈l,(f x).length=k) (h:aW k v (l.flatMap f) w) (h0:0<k):∃ a c,v=.slice a l.length c:=by
 obtain ⟨a,n,c,rfl,hl,hx⟩:=id h;rw [iK hk,aiS]at hl;exact ⟨a,c,by rw [Nat.eq_of_mul_eq_mul_right h0 hl]⟩
theorem Wh (x j:Nat) (hx:x<9223372036854775808) (hj:j<63):bits .and .i64 (x:Int) ((2^j-1:Nat):Int)=((x%2^j:Nat):Int):=by
 have h2:2^j<=2^62:=aoS aG oQ;have h3:(2:Nat)^62=4611686018427387904:=by decide
 have h4:0<2^j:=Nat.two_pow_pos j;have hm:(BitVec.ofInt 64 ((2^j-1:Nat):Int)).toNat=2^j-1:=by
  rw [BitVec.toNat_ofInt];have:((2^64:Nat):Int)=18446744073709551616:=by decide
  rw [this];omega
 have hn:(BitVec.ofInt 64 (x:Int)).toNat=x:=by
  rw [BitVec.toNat_ofInt];have:((2^64:Nat):Int)=18446744073709551616:=by decide
  rw [this];omega
 show IntKind.i64.wrap ((BitVec.ofInt 64 (x:Int) &&& BitVec.ofInt 64 ((2^j-1:Nat):Int)).toNat:Nat)=_;rw [BitVec.toNat_and,hm,hn,Nat.and_two_pow_sub_one_eq_mod,alj];have:=anD x h4;omega
theorem Sr (l:Bs) (c:UInt8) (k:Nat) (hl:l.length=k) (hk:k<4):bits .or .u32 ((aj.num l:Nat):Int) ((c.toNat:Int)*((256^k:Nat):Int))=((aj.num (l++[c]):Nat):Int):=by
 subst hl;have h1:=aj.zL l;have h2:=c.toNat_lt;have h3:256^l.length<=256^3:=aoS aG oQ;have h4:c.toNat*256^l.length<=255*256^3:=apu oQ h3;have h5:(256:Nat)^3=16777216:=by decide
 have e:(c.toNat:Int)*((256^l.length:Nat):Int)=((c.toNat*256^l.length:Nat):Int):=by rw [apT]
 rw [e,u32_or_nat _ _ oQ oQ,aj.RY]
 congr 1
 have hp:(256:Nat)^l.length=2^(8*l.length):=by rw [Nat.pow_mul]
 rw [hp]at h1 ⊢;have:=Nat.two_pow_add_eq_or_of_lt h1 c.toNat;rw [Nat.or_comm,aiS c.toNat,<-this,apX]
theorem ah2 (k:Bs) (hk:k.length=32) (j:Nat) (hj:j<40) (h:Sat w0 w F) :
  Calls prog 213 #[.agg (aB k).toArray,.int .i64 (2^j:Nat)] w (aN λv w'=>v=.int .i64 (Tab.home k (2^j):Nat)/\Sat w0 w' F):=by
 obtain ⟨c0,c1,c2,c3,t,rfl⟩:∃ c0 c1 c2 c3 t,k=c0::c1::c2::c3::t:=by
  match k,hk with
  |c0::c1::c2::c3::t,_=>exact ⟨c0,c1,c2,c3,t,rfl⟩
 have Hh:=uQ (show Tab.home (c0::c1::c2::c3::t) (2^j)=aj.num [c0,c1,c2,c3]%2^j from rfl);have hB:=h.alloc (.cells (aB (c0::c1::c2::c3::t)).toArray 34);have e0:(w.alloc (.cells (aB (c0::c1::c2::c3::t)).toArray 34)).cell? ⟨w.heap.size,0,none⟩=some (.int .u8 c0.toNat):=hB.cellAt 0 _ rfl;have e1:(w.alloc (.cells (aB (c0::c1::c2::c3::t)).toArray 34)).cell? ⟨w.heap.size,1,none⟩=some (.int .u8 c1.toNat):=hB.cellAt 1 _ rfl;have e2:(w.alloc (.cells (aB (c0::c1::c2::c3::t)).toArray 34)).cell? ⟨w.heap.size,2,none⟩=some (.int .u8 c2.toNat):=hB.cellAt 2 _ rfl;have e3:(w.alloc (.cells (aB (c0::c1::c2::c3::t)).toArray 34)).cell? ⟨w.heap.size,3,none⟩=some (.int .u8 c3.toNat):=hB.cellAt 3 _ rfl;have b0:=c0.toNat_lt;have b1:=c1.toNat_lt;have b2:=c2.toNat_lt;have b3:=c3.toNat_lt;have q1:bits .or .u32 (c0.toNat:Int) ((c1.toNat:Int)*256)=((aj.num [c0,c1]:Nat):Int):=by
  have:=Sr [c0] c1 1 rfl aG;simpa [aj.num] using this
 have q2:bits .or .u32 ((aj.num [c0,c1]:Nat):Int) ((c2.toNat:Int)*65536)=((aj.num [c0,c1,c2]:Nat):Int):=Sr [c0,c1] c2 2 rfl aG;have q3:bits .or .u32 ((aj.num [c0,c1,c2]:Nat):Int) ((c3.toNat:Int)*16777216)=((aj.num [c0,c1,c2,c3]:Nat):Int):=Sr [c0,c1,c2] c3 3 rfl aG;have hn:=aj.zL [c0,c1,c2,c3];rw [show [c0,c1,c2,c3].length=4 from rfl,show (256:Nat)^4=4294967296 by decide]at hn;have hp:(2:Nat)^j<=2^40:=aoS aG oQ;have hp1:(2:Nat)^40=1099511627776:=by decide
 have hp0:0<2^j:=Nat.two_pow_pos j;have q4:=Wh (aj.num [c0,c1,c2,c3]) j oQ oQ;generalize aj.num [c0,c1,c2,c3]=N at *
 generalize hC:2^j=C at *
 have hw1:IntKind.i64.wrap ((C:Int)-1)=((C-1:Nat):Int):=by rw [alj];omega
 have hw2:IntKind.i64.wrap (N:Int)=(N:Int):=acO _ oQ;have hm2:N%C<C:=anD _ hp0;clear h hk hC hp hp1;go_enter func213,ntmps213;go_wp2_with fail;go_ret;refine ⟨_,rfl,?_,hB.drop⟩;rw [Hh.o,Int.natCast_emod];rfl
section
variable {o:Nat}
variable {t:TypeId}{pos:String}
theorem iD (ks:List Value) (hx:a.eval x=.pointer (some ⟨b,o,none⟩)) (hc:∀ j v,ks[j]?=some v->w.cell? ⟨b,o+j,none⟩=some v)
  {d:TypeDesc} (hu:P.underlying ty=some d) (hd:d.isRow=true) (hi:(P.info? ty).map (·.size)=some ks.length)
  (h:wpList P ops Q rest (a.put dst (.agg ks.toArray)) w):wpList P ops Q (⟨dst,.load ty x,t,pos,after,none⟩::rest) a w:=
 wpList_load_mid rfl ty x rfl b o hx ks d hc hu hd hi h
theorem fG (ks:Array Value) (hs:Sat w0 w L) (hx:a.eval x=.pointer (some ⟨b,0,none⟩)) (hy:a.eval y=.agg ks) (hsz:ks.size=cs.size) (u:pF (pt b (.cells cs T (0,0))) (pt b (.cells ks T (0,0))) L L')
  (hi:(P.info? ty).map (·.size)=some ks.size) (h1:ks.toList.all (·.oneCell')=true)
  (hK:∀ w',Sat w0 w' L'->wpList P ops Q rest (a.put dst undef) w'):wpList P ops Q (⟨dst,.store ty x y,t,pos,after,none⟩::rest) a w:=
 jM hs hx hy (rY (by
  show (eH cs 0 ks.toList).toList=_;rw [mV _ _ _ (by rw [ad6];omega),afC,aeV,aeE,aeI (by rw [ad6,ad6];omega),aei])) u (by show 0+ks.size<=cs.size;omega) hi h1 hK
end
section
variable {t:TypeId}{pos:String}{e:aj.aJ}{da:Option Addr}{dn dc:Nat}
theorem anZ (hs:Sat w0 w L) (hy:a.eval x=.agg (bV e (.slice da dn dc))) (hk:e.key.length=32)
  (hK:∀ b w',Sat w0 w' (pt b (.cells (bV e (.slice da dn dc)) 71 (0,0))::L)->wpList prog ops Q rest (a.put dst (.slice (some ⟨b,0,none⟩) 1 1)) w') :
  wpList prog ops Q (⟨dst,.buildSlice 72 1 #[(0,x)],t,pos,after,none⟩::rest) a w:=
 jg (e:=71) (sz:=34) (dF:=64) au hs hy rfl (dJ _ _ hk) aG hK
theorem aft (h:Stop (wpList prog ops Q (⟨dst,.buildSlice 72 1 #[(0,x)],t,pos,after,none⟩::rest) a w)):wpList prog ops Q (⟨dst,.buildSlice 72 1 #[(0,x)],t,pos,after,none⟩::rest) a w:=h.o
end
abbrev akA (q:Seg.aZ):Value:= .agg #[.int .i64 q.seg,.int .i64 q.at_,.int .i64 q.size]
section
variable {x:Value}{L:Seg.Log}{M:ak}
end
end Go.Proofs.Y
namespace Go.Seg
open Go.ak
theorem H6 (n:Int):(name n).size<=9223372036854775807:=by
 unfold name;split
 ·decide
 ·show (lead++gY n.toNat 8).toArray.size<=_;rw [abA,aa7,sU];decide
end Go.Seg
namespace Go.Proofs.Y
open Go.ak
section
variable {x:Value}{L:Seg.Log}{M:ak}
end
end Go.Proofs.Y
namespace Go.Seg
open Go.ak
theorem agP (x:aj.aJ) (h:(aj.encode x).2=0):(aj.encode x).1≠[]:=by
 unfold aj.encode at *
 split at h
 ·rename_i hc;exact absurd h hc
 ·rename_i hc;rw [abL hc];intro e;have:=aeO List.length e;simp [aj.iE]at this
end Go.Seg
namespace Go.Proofs.Y
open Go.ak
section
variable {x:Value}{L:Seg.Log}{M:ak}
end
end Go.Proofs.Y
namespace Go.Seg
def idx (l:List (Int×Int)) (n:Int):Int:=match l.findIdx? (λs=>s.1==n) with
 |some i=>i
 |none=> -1
theorem ag7 (L:Log) (n:Int):L.find n=idx L.l n:=rfl
theorem ais {l:List (Int×Int)}{n:Int}{i:Nat}{s:Int×Int} (hs:l[i]?=some s) (hn:s.1=n) (hp:∀ (j:Nat) (t:Int×Int),j<i->l[j]?=some t->t.1≠n):idx l n=i:=by
 unfold idx;have:l.findIdx? (λs=>s.1==n)=some i:=by
  rw [List.findIdx?_eq_some_iff_getElem];obtain ⟨h1,h2⟩:=acZ.1 hs;refine ⟨h1,by rw [h2];simpa using hn,λj hj=>?_⟩;have:=hp j _ hj (aaJ oQ);simpa using this
 rw [this]
theorem ait {l:List (Int×Int)}{n:Int} (hp:∀ (j:Nat) (t:Int×Int),j<l.length->l[j]?=some t->t.1≠n):idx l n = -1:=by
 unfold idx;have:l.findIdx? (λs=>s.1==n)=none:=by
  rw [List.findIdx?_eq_none_iff];intro t ht;obtain ⟨j,hj,rfl⟩:=aoI ht;have:=hp j _ hj (aaJ hj);simpa using this
 rw [this]
end Go.Seg
namespace Go.Proofs.Y
open Go.ak
section
variable {x:Value}{L:Seg.Log}{M:ak}
theorem ag6 (s:Int×Int) (n:Int) (h:Sat w0 w F) (hq:Ro w0 F λw=>w.cell? ⟨q,0,none⟩=some (.int .i64 n)) :
  Calls prog 136 #[.agg #[.int .i64 s.1,.int .i64 s.2],ptr q] w (aN λv w'=>v=.bool (s.1==n)/\Sat w0 w' F):=by
 go_enter func136,ntmps136;go_wp2_with (first|(((with_reducible refine fC ⟨?_⟩);refine fB aQ ay ay ?_;intro bB wB hB);have c0:wB.cell? ⟨q,0,none⟩=some (.int .i64 n):=hq _ hB.drop)|((with_reducible refine bC ⟨?_⟩);refine eY aQ ah bK bG ay au ?_));go_ret;exact ⟨_,rfl,rfl,hB.drop⟩
theorem aiu (l:List (Int×Int)) (n:Int) (hln:l.length<=1048576) (h:Sat w0 w (aC 148 2 lv (iy l)::F)) (hq:Ro w0 F λw=>w.cell? ⟨q,0,none⟩=some (.int .i64 n)) :
  Calls prog 135 #[lv,.func (.func 136) #[] #[ptr q]] w (aN λv w'=>v=.int .i64 (Seg.idx l n)/\Sat w0 w' (aC 148 2 lv (iy l)::F)):=by
 rcases h.kL with ⟨rfl,hx,hF⟩|⟨b,n',cap,cs,rfl,hll,hn',hc,hcm,htk,hp⟩
 ·have hl:l=[]:=by
   cases l with
   |nil=>rfl
   |cons a l=>simp [iy]at hx
  subst hl;go_enter func135,ntmps135;go_wp2_with fail
  go_loopg [8] 0 (λg iq wr=>iq=.int .i64 0/\wr=w)
  case atStart=>exact ⟨rfl,rfl⟩
  case round=>
   obtain ⟨rfl,rfl⟩:=hrel;go_wp2;go_ret;exact ⟨_,rfl,rfl,h⟩
 ·rw [pW]at hll;obtain rfl:n'=l.length:=by omega
  have hcl:∀ (i:Nat) (s:Int×Int),l[i]?=some s->cs[i*2]?=some (.int .i64 s.1)/\cs[i*2+1]?=some (.int .i64 s.2):=by
   intro i s hs;obtain ⟨h1,h2⟩:=Md _ _ _ hs;rw [aiS i 2];exact ⟨lX htk h1,lX htk h2⟩
  have gK:=uQ hcl;have Je:=uQ (show ∀ wr,Sat w0 wr (pt b (.cells cs 148 (0,0))::F)->Sat w0 wr (aC 148 2 (.slice (some ⟨b,0,none⟩) l.length cap) (iy l)::F) from λwr hS=>Sat.kU hS (by rw [pW];omega) hn' hc hcm htk);have Hq:=uQ hq;clear hcl hn' hc hcm htk h hq hll;go_enter func135,ntmps135;go_wp2_with fail
  go_loopg [8] l.length (λg iq wr=>∃ i:Nat,g=l.length-i/\i<=l.length/\iq=.int .i64 i/\Sat w0 wr (pt b (.cells cs 148 (0,0))::F)/\Hid (∀ (j:Nat) (t:Int×Int),j<i->l[j]?=some t->t.1≠n))
  case atStart=>exact ⟨0,rfl,ad4 _,rfl,hp,uQ λj t hj=>absurd hj (Nat.not_lt_zero j)⟩
  case round=>
   obtain ⟨i,rfl,hi,rfl,hS,Hp⟩:=hrel;clear hp;by_cases hlt:i<l.length
   ·obtain ⟨s,hs⟩:∃ s,l[i]?=some s:=⟨_,aaJ hlt⟩;obtain ⟨d0,d1⟩:=gK.o i s hs;have Hs:=uQ hs;have NS:=uQ d0;have Hd1:=uQ d1;have aS:=uQ hlt;have hic:(i:Int)<(l.length:Int):=oQ;have hwi:=qm (i:=i);clear hs d0 d1 hlt;have hfn:=ag6 (q:=q) s n hS (Ro.os Hq.o)
    go_wp2_with ((with_reducible refine bC ⟨?_⟩);refine EW (b:=b) (o:=i*2) [.int .i64 s.1,.int .i64 s.2] aQ ah bK (λj v hj=>by
     rcases j with _|_|j
     ·cases hj;exact NS.o
     ·cases hj;exact Hd1.o
     ·simp at hj) underlying148 rfl au ?_)
    refine hfn.mono ?_;rintro e w2 ⟨v,rfl,rfl,hS2⟩;clear hfn hS;by_cases hsn:s.1=n
    ·have hsb:(s.1==n)=true:=by simpa using hsn
     have bF:=uQ (Seg.ais Hs.o hsn Hp.o);clear hsn;go_wp2;go_ret;exact ⟨.int .i64 i,rfl,by rw [bF.o],Je.o _ hS2⟩
    ·have hsb:(s.1==n)=false:=by simpa using hsn
     have Hp2:=uQ (show ∀ (j:Nat) (t:Int×Int),j<i+1->l[j]?=some t->t.1≠n by
      intro j t hj ht;by_cases hji:j<i
      ·exact Hp.o j t hji ht
      ·obtain rfl:j=i:=by omega
       rw [Hs.o]at ht;cases ht;exact hsn)
     clear hsn Hp;go_wp2
     go_roundg (l.length-(i+1))
     case measure=>have:=aS.o;omega
     case rel=>exact ⟨i+1,rfl,ad8 aS.o,by first|rfl|go_num,hS2,Hp2⟩
   ·obtain rfl:i=l.length:=by omega
    have hic:¬ (l.length:Int)<(l.length:Int):=oQ;have bF:=uQ (Seg.ait Hp.o);clear hi hlt Hp;go_wp2;go_ret;exact ⟨.int .i64 (-1),rfl,by rw [bF.o],Je.o _ hS⟩
theorem G5 (hL:L.Ok) (n:Int) (h:Sat w0 w (aV p m L::F)) :
  Calls prog 70 #[ptr p,.int .i64 n] w (aN λv w'=>v=.int .i64 (L.find n)/\Sat w0 w' (aV p m L::F)):=by
 obtain ⟨lv,hR⟩:=aV.vX h;clear h;have lq:=uQ hL.len;rw [Seg.ag7];clear hL;go_enter func70,ntmps70;go_wp2_with ((with_reducible refine fC ⟨?_⟩);refine fB aQ ay ay ?_;intro bB wB hB);refine (CS (Sat.pk aQ)).mono ?_;rintro e w2 ⟨v,rfl,rfl,rfl⟩;clear hR;go_wp2_with ((with_reducible refine bC ⟨?_⟩);refine eY aQ ah bK bG ay au ?_);refine (aiu (q:=bB) (lv:=lv) L.l n lq.o (Sat.pk aQ) (λw hw=>hw.cellP bK 0 rfl)).mono ?_;rintro e w3 ⟨v,rfl,rfl,hS3⟩;clear hB;go_wp2;go_ret;exact ⟨_,rfl,rfl,aV.shut2 (lv:=lv) (Sat.sb hS3)⟩
theorem ajp (hM:M.Ok K) (h:Sat w0 w (aV p m L::aI m M::F)) :
  Calls prog 122 #[ptr p] w (aN λv w'=>v=errno M.dH.2/\Sat w0 w' (aV p m L::aI m M.dH.1::F)):=by
 obtain ⟨lv,hR⟩:=aV.vX h;clear h;go_enter func122,ntmps122;go_wp2_with fail;refine (CS (Sat.pk aQ)).mono ?_;rintro e w2 ⟨v,rfl,rfl,rfl⟩;go_wp2_with ((with_reducible refine bC ⟨?_⟩);refine eY aQ ah bK bG ay au ?_);refine (MK hM (Sat.pk aQ)).mono ?_;rintro e w3 ⟨v,rfl,rfl,hS3⟩;go_wp2;go_ret;exact ⟨_,rfl,rfl,aV.shut2 (lv:=lv) (Sat.sb hS3)⟩
theorem JU (n:Int):(L.at n=none/\L.find n = -1)\/∃ i,L.at n=some i/\L.find n=i:=by
 unfold Seg.Log.find;cases L.at n with
 |none=>exact .inl ⟨rfl,rfl⟩
 |some i=>exact .inr ⟨i,rfl,rfl⟩
theorem ajo (hL:L.Ok) (n:Int) (h:Sat w0 w (aV p m L::F)) :
  Calls prog 192 #[ptr p,.int .i64 n] w (aN λv w'=>v=.int .i64 (L.size n)/\Sat w0 w' (aV p m L::F)):=by
 have hf:=G5 hL n h;have lq:=uQ hL.len;rcases JU (L:=L) n with ⟨ha,hb⟩|⟨i,ha,hb⟩
 ·have bF:=uQ (show L.size n=0 by unfold Seg.Log.size;rw [ha]);rw [hb]at hf;clear ha hb hL h;go_enter func192,ntmps192;go_wp2_with fail;refine hf.mono ?_;rintro e w2 ⟨v,rfl,rfl,hS2⟩;clear hf;go_wp2;go_ret;rw [bF.o];exact ⟨_,rfl,rfl,hS2⟩
 ·rw [hb]at hf;obtain ⟨hlt,s,hs,hsn⟩:=Seg.Log.Jw ha;have bF:=uQ (show L.size n=s.2 by unfold Seg.Log.size;rw [ha];simp only;rw [adV,hs];rfl);have Hs:=uQ hs;have hi0:(0:Int)<=(i:Int):=oQ;have hil:(i:Int)<(L.l.length:Int):=oQ;have hd:decide ((i:Int)<0)=false:=aea oQ;clear ha hb hL h hs hsn hlt;go_enter func192,ntmps192;go_wp2_with fail;refine hf.mono ?_;rintro e w2 ⟨v,rfl,rfl,hS2⟩;clear hf;obtain ⟨lv,hR⟩:=aV.vX hS2;rcases (hR.pk).kL with ⟨hl,hx,hF⟩|⟨b,n',cap,cs,rfl,hll,hn',hc,hcm,htk,hp⟩
  ·exfalso;have:=(Md _ _ _ Hs.o).1;rw [hx]at this;simp at this
  ·rw [pW]at hll;obtain rfl:n'=L.l.length:=by omega
   have e2:w2.cell? ⟨b,i*2+1,none⟩=some (.int .i64 s.2):=by
    have:=lX htk (Md _ _ _ Hs.o).2;rw [aiS 2 i]at this;exact hp.cellP bK _ this
   clear hp htk hc hn' hll hcm;go_wp2_with ((with_reducible refine bC ⟨?_⟩);refine eY aQ ah bK bG ay au ?_);go_ret;rw [bF.o];exact ⟨_,rfl,rfl,hS2⟩
theorem QY (hL:L.Ok) (hM:M.Ok K) (n:Int) (h:Sat w0 w (aV p m L::aI m M::F)) :
  Calls prog 22 #[ptr p,.int .i64 n] w (aN λv w'=>∃ bv,v=.tuple #[bv,errno (L.bytes M n).2]/\Sat w0 w' (aY bv (L.bytes M n).1::aV p m L::aI m M::F)):=by
 obtain ⟨lv,hR⟩:=aV.vX h;have hok:=CS hR;have hf:=G5 hL n h;rcases JU (L:=L) n with ⟨ha,hb⟩|⟨i,ha,hb⟩
 ·have bF:=uQ (show L.bytes M n=([],9) by unfold Seg.Log.bytes;rw [ha]);rw [hb]at hf;clear ha hb hL h hR;go_enter func22,ntmps22;go_wp2_with fail;refine hok.mono ?_;rintro e w2 ⟨v,rfl,rfl,rfl⟩;clear hok;go_wp2_with fail;refine hf.mono ?_;rintro e w2 ⟨v,rfl,rfl,hS2⟩;clear hf;go_wp2
  go_ret2
  rw [bF.o];exact ⟨_,rfl,.slice none 0 0,rfl,Sat.dO.2 hS2⟩
 ·rw [hb]at hf;have bF:=uQ (show L.bytes M n=M.all (Seg.name n) by unfold Seg.Log.bytes;rw [ha]);have hi0:(0:Int)<=(i:Int):=oQ;have hd:decide ((i:Int)<0)=false:=aea oQ;clear ha hb hL h hR lv;go_enter func22,ntmps22;go_wp2_with fail;refine hok.mono ?_;rintro e w2 ⟨v,rfl,rfl,rfl⟩;clear hok;go_wp2_with fail;refine hf.mono ?_;rintro e w2 ⟨v,rfl,rfl,hS2⟩;clear hf;obtain ⟨lv,hR⟩:=aV.vX hS2;clear hS2;go_wp2_with fail;refine eF [6,7,8,9,10] (λw'=>w'.cell? ⟨p,0,none⟩=some (ptr m)) au ?_;have hG:w2.drew.cell? ⟨p,0,none⟩=some (ptr m):=hR.drew.cellP bK 0 rfl;refine rP 0 ?_ (y:=bD);refine rP 1 ?_ (y:=iG);refine rP 2 ?_ (y:=dh);refine rt 3 (h:=?_);refine rP 4 ?_ (y:=bD);clear hG;refine cZ 5 ay au (λK hK=>?_)
  (refine uJ au ay ?_)
  refine (EI n hR.drew).mono ?_;rintro e w3 ⟨v,rfl,rfl,hS3⟩;refine hK _ _ (.inr (.inl (hS3.cellP bK 0 rfl))) ?_;clear hK K hR;refine cZ 6 ay au (λK hK=>?_)
  (refine jB au ay ay ?_)
  refine (OH hM (Sat.pk aQ) _).mono ?_;rintro e w4 ⟨v,rfl,bv,rfl,hS4⟩;refine hK _ _ (.inl rfl) ?_;clear hK K hS3;refine rP 7 ?_ (y:=(nU ay bY));refine rP 8 ?_ (y:=(nU ay bY));refine rP 9 ?_ (y:=jU);refine rP 10 ?_ (y:=jU);refine dX au ?_;go_wp2
  go_ret2
  rw [bF.o];exact ⟨_,rfl,bv,rfl,Sat.sub (aV.shut2 (lv:=lv) (hS4.sb)) jS⟩
end
end Go.Proofs.Y
namespace Go.Seg
def Log.aH (L:Log):List Int:=L.l.map (·.1)
end Go.Seg
namespace Go.Proofs.Y
open Go.ak
theorem adP:kD prog 148=some (.agg #[.int .i64 0,.int .i64 0]):=by kernel_rfl
section
variable {x:Value}{L:Seg.Log}{M:ak}
theorem aiF (l k:List Int):ints (l++k)=ints l++ints k:=by unfold ints;rw [aef]
theorem aiG (l:List Int):(ints l).length=l.length:=by unfold ints;rw [abl]
theorem amy (hln:L.l.length<=1048576) (h:Sat w0 w (zI p m L lv::aC 148 2 lv (iy L.l)::F)) :
  (L.l=[]/\lv=.slice none 0 0)\/∃ b cap cs,lv=.slice (some ⟨b,0,none⟩) L.l.length cap/\(∀ (i:Nat) (s:Int×Int),L.l[i]?=some s->cs[i*2]?=some (.int .i64 s.1)/\cs[i*2+1]?=some (.int .i64 s.2)) /\
   Sat w0 w (pt b (.cells cs 148 (0,0))::zI p m L lv::F)/\∀ w1 G,Sat w0 w1 (pt b (.cells cs 148 (0,0))::G)->Sat w0 w1 (aC 148 2 lv (iy L.l)::G):=by
 have h':=h.aT;rcases h'.kL with ⟨rfl,hx,hF⟩|⟨b,n',cap,cs,rfl,hll,hn',hc,hcm,htk,hp⟩
 ·left;refine ⟨?_,rfl⟩;cases hl:L.l with
  |nil=>rfl
  |cons a l=>rw [hl]at hx;simp [iy]at hx
 ·right;rw [pW]at hll;obtain rfl:n'=L.l.length:=by omega
  refine ⟨b,cap,cs,rfl,?_,hp,λw1 G hS=>Sat.kU hS (by rw [pW];omega) hn' hc hcm htk⟩;intro i s hs;obtain ⟨h1,h2⟩:=Md _ _ _ hs;rw [aiS i 2];exact ⟨lX htk h1,lX htk h2⟩
theorem En (hL:L.Ok) (h:Sat w0 w (aV p m L::F)) :
  Calls prog 21 #[ptr p] w (aN λv w'=>Sat w0 w' (aC 3 1 v (ints L.aH)::aV p m L::F)):=by
 obtain ⟨lv,hR⟩:=aV.vX h;clear h;have hok:=CS hR;rcases amy hL.len hR with ⟨hnil,rfl⟩|⟨b,cap,cs,rfl,hcl,hp,hend⟩
 ·have bF:=uQ (show L.aH=[] by unfold Seg.Log.aH;rw [hnil];rfl);clear hnil hL;go_enter func21,ntmps21;go_wp2_with fail;refine hok.mono ?_;rintro e w2 ⟨v,rfl,rfl,rfl⟩;clear hok;go_wp2_with ((with_reducible refine bC ⟨?_⟩);refine eY aQ ah bK bG ay au ?_)
  go_loopg [14,3] 0 (λg iq ov wr=>iq=.int .i64 0/\ov=.slice none 0 0/\wr=w)
  case atStart=>exact ⟨rfl,rfl,rfl⟩
  case round=>
   obtain ⟨rfl,rfl,rfl⟩:=hrel;go_wp2;go_ret;rw [bF.o];exact ⟨_,rfl,Sat.dO.2 (aV.shut2 hR)⟩
 ·have gK:=uQ hcl;have Je:=uQ hend;have lq:=uQ hL.len;clear hcl hend hL hR;go_enter func21,ntmps21;go_wp2_with fail;refine hok.mono ?_;rintro e w2 ⟨v,rfl,rfl,rfl⟩;clear hok;go_wp2_with ((with_reducible refine bC ⟨?_⟩);refine eY aQ ah bK bG ay au ?_)
  go_loopg [14,3] L.l.length (λg iq ov wr=>∃ i:Nat,g=L.l.length-i/\i<=L.l.length/\iq=.int .i64 i /\
   Sat w0 wr (aC 3 1 ov (ints ((L.l.take i).map (·.1)))::pt b (.cells cs 148 (0,0))::zI p m L (.slice (some ⟨b,0,none⟩) L.l.length cap)::F))
  case atStart=>exact ⟨0,rfl,ad4 _,rfl,Sat.dO.2 hp⟩
  case round=>
   obtain ⟨i,rfl,hi,rfl,hS⟩:=hrel;clear hp;by_cases hlt:i<L.l.length
   ·obtain ⟨s,hs⟩:∃ s,L.l[i]?=some s:=⟨_,aaJ hlt⟩
    have dP:=uQ (show ints ((L.l.take i).map (·.1))++[.int .i64 s.1]=ints ((L.l.take (i+1)).map (·.1)) by
     rw [aeN,hs,aef,aiF];rfl)
    have hlen:(ints ((L.l.take i).map (·.1))).length<=2147483648:=by
     rw [aiG,abl,adt];have:=lq.o;omega
    obtain ⟨d0,d1⟩:=gK.o i s hs;have NS:=uQ d0;have Hd1:=uQ d1;have aS:=uQ hlt;have hic:(i:Int)<(L.l.length:Int):=oQ;have hwi:IntKind.i64.wrap ((i:Int)+1)=(i:Int)+1:=acO _ (by have:=lq.o;omega);clear hs d0 d1 hlt
    go_wp2_with (first
     |((with_reducible refine bC ⟨?_⟩);refine EW (b:=b) (o:=i*2) [.int .i64 s.1,.int .i64 s.2] aQ ah bK (λj v hj=>by
       rcases j with _|_|j
       ·cases hj;exact NS.o
       ·cases hj;exact Hd1.o
       ·simp at hj) underlying148 rfl au ?_)
     |(refine eU adP aQ rfl ?_;intro q3 w3 hS3)
     |((with_reducible refine bW ⟨?_⟩);refine jM aQ ah ay pQ gZ bG au ah ?_;intro wS hS)|((with_reducible refine bC ⟨?_⟩);refine eY aQ ah bK bG ay au ?_)|((with_reducible refine jh ⟨?_⟩);refine jg (e:=3) (sz:=1) (dF:=8) au aQ ay ay ah bG ?_;intro bN wN hN)|((with_reducible refine fZ ⟨?_⟩);refine jF 3 1 8 au aQ ah ah bK bK ah bG ah aQ bG bG ay ?_;intro bA nA cA wA hA))
    go_roundg (L.l.length-(i+1))
    case measure=>have:=aS.o;omega
    case rel=>
     refine ⟨i+1,rfl,ad8 aS.o,by first|rfl|go_num,?_⟩;rw [dP.o]at hA;exact Sat.sb hA
   ·obtain rfl:i=L.l.length:=by omega
    have hic:¬ (L.l.length:Int)<(L.l.length:Int):=oQ;rw [aeH]at hS;clear hi hlt;go_wp2;go_ret;refine ⟨_,rfl,?_⟩;have h7:=Je.o _ _ (hS.pk);exact Sat.sub (aV.shut2 (lv:= .slice (some ⟨b,0,none⟩) L.l.length cap) (Sat.sb h7)) jS
end
section
section
variable {o:Nat}{t:TypeId}{pos:String}{g:Nat×Bool}
theorem Jv (h:Stop (wpList P ops Q (⟨dst,.load ty x,t,pos,after,some g⟩::rest) a w)):wpList P ops Q (⟨dst,.load ty x,t,pos,after,some g⟩::rest) a w:=h.o
theorem Nj (hw:Region.wanted ⟨dst,.load ty x,t,pos,after,some g⟩ (yielded ops a.tmps)=true) (hx:a.eval x=.pointer (some ⟨b,o,none⟩)) (cl:List Value) (d:TypeDesc) (hc:w.rangeAt b o cl)
  (hu:P.underlying ty=some d) (hd:d.isRow=true) (hi:(P.info? ty).map (·.size)=some cl.length)
  (h:wpList P ops Q rest (a.put dst (.agg cl.toArray)) w):wpList P ops Q (⟨dst,.load ty x,t,pos,after,some g⟩::rest) a w:=
 wpList_step λ_ hK=>by
  rw [adU hw];exact wp_load_mid ty x rfl b o hx cl d hc hu hd hi (hK _ _ h)
end
end
def bT (p:Seg.aZ):List Value:=[.int .i64 p.seg,.int .i64 p.at_,.int .i64 p.size]
def fA (a:Rep.dU):List Value:=[.int .i64 a.tag,.int .i64 a.place.seg,.int .i64 a.place.at_,.int .i64 a.place.size,.int .i64 a.first]
abbrev yQ:Rep.dU:=⟨0,Seg.aZ.zero,0⟩
abbrev yR:Seg.aZ:=Seg.aZ.zero
theorem yC (p:Seg.aZ):(bT p).length=3:=rfl
theorem FW (a:Rep.dU):(fA a).length=5:=rfl
theorem yD (p:Seg.aZ):(bT p).all (·.oneCell')=true:=rfl
theorem DV (a:Rep.dU):(fA a).all (·.oneCell')=true:=rfl
def slotL {V:Type} (enc:V->List Value) (x:Tab.Slot V):List Value:= .int .i64 x.st::(aB x.key++enc x.val)
abbrev fV (p:Nat) (T:TypeId) (sv:Value) (n g:Nat):aF:=pt p (.cells #[sv,.int .i64 n,.int .i64 g] T (0,0))
theorem kZ {V:Type} (enc:V->List Value) (x:Tab.Slot V) (hk:x.key.length=32) (m:Nat) (he:(enc x.val).length=m):(slotL enc x).length=33+m:=by
 unfold slotL;rw [aev,aa7,aP,hk,he];omega
theorem uH (b:aj.Bs):(aB b).all (·.oneCell')=true:=by
 rw [agt];intro v hv;unfold aB at hv;obtain ⟨c,_,rfl⟩:=adu.1 hv
 rfl
theorem pX {V:Type} (enc:V->List Value) (x:Tab.Slot V) (he:(enc x.val).all (·.oneCell')=true):(slotL enc x).all (·.oneCell')=true:=by
 unfold slotL;rw [List.all_cons,ajk,uH,he];rfl
theorem amH {V:Type} (enc:V->List Value) (x:Tab.Slot V){j:Nat}{v:Value} (h:(aB x.key)[j]?=some v):(slotL enc x)[1+j]?=some v:=by
 unfold slotL;rw [apX,aoL,aek (acZ.1 h).1];exact h
theorem acJ {V:Type} (enc:V->List Value) (x:Tab.Slot V) (hk:x.key.length=32){j:Nat}{v:Value} (h:(enc x.val)[j]?=some v):(slotL enc x)[33+j]?=some v:=by
 unfold slotL;rw [show 33+j=32+j+1 by omega,aoL,aew (by rw [aP,hk];omega),aP,hk,apI];exact h
theorem Dv:kD prog 345=some (.agg (slotL fA ⟨0,aj.zero32,⟨0,Seg.aZ.zero,0⟩⟩).toArray):=by kernel_rfl
theorem yO:kD prog 215=some (.agg (slotL bT ⟨0,aj.zero32,Seg.aZ.zero⟩).toArray):=by kernel_rfl
section
variable {V:Type}{enc:V->List Value}{x:Tab.Slot V}{l:List Value}
theorem qp (h:Sat w0 w (pt b (.cells l.toArray T (0,0))::R)):w.rangeAt b 0 l:=λj v hj=>by
 have:=h.cellP aK j zN0;rw [aeE];exact this
theorem Df (h:Sat w0 w (pt b (.cells (slotL enc x).toArray T (0,0))::R)):w.rangeAt b 1 (aB x.key):=λj v hj=>
 h.cellP aK (1+j) (by rw [aeh];exact amH enc x hj)
theorem amI (hk:x.key.length=32) (h:Sat w0 w (pt b (.cells (slotL enc x).toArray T (0,0))::R)):w.rangeAt b 33 (enc x.val):=λj v hj=>
 h.cellP aK (33+j) (by rw [aeh];exact acJ enc x hk hj)
end
end Go.Proofs.Y
namespace Go.Tab
open Go.aj (Bs)
section
variable {V:Type}{x:Slot V}{c:Nat}
theorem YA (hc:∃ j,c=2^j/\3<=j) (hk:x.key.length=32) (hx:x.st=0):Good (List.replicate c x):=
 ⟨by rw [afa];exact hc,(λy hy=>by rw [List.eq_of_mem_replicate hy,hx];decide),(λy hy=>by rw [List.eq_of_mem_replicate hy];exact hk),λi y hy h1=>by
  rw [List.eq_of_mem_replicate (acr hy),hx]at h1;cases h1⟩
theorem XK (hx:x.st=0) (k:Bs) (v:V):¬ Has (List.replicate c x) k v:=by
 rintro ⟨i,y,hy,h1,_⟩;rw [List.eq_of_mem_replicate (acr hy),hx]at h1;cases h1
theorem XJ (hx:x.st=0):kS (List.replicate c x)=0:=by unfold kS;rw [List.countP_replicate,abL (by rw [hx];decide)]
theorem XL (hx:x.st=0):used (List.replicate c x)=0:=by unfold used;rw [List.countP_replicate,abL (by rw [hx];decide)]
theorem Ry (hk:x.key.length=32) (hx:x.st=0):(⟨List.replicate 8 x,0,0⟩:Tb V).Ok:=
 ⟨YA ⟨3,rfl,ab1 3⟩ hk hx,(XJ hx).symm,(XL hx).symm,by simp,by simp⟩
theorem Rx (hx:x.st=0) (n g:Nat):(⟨List.replicate 8 x,n,g⟩:Tb V).Is (λ_=>none):=λk v=>⟨λh=>absurd h (XK hx k v),λh=>by cases h⟩
theorem Tb.Is.some {t:Tb V}{m:Bs->Option V} (hm:t.Is m) (ho:t.Ok){k:Bs}{d:Nat} (he:Ends t.slots k d){y:Slot V} (hy:t.slots[pos k t.slots.length d]?=some y):(y.st=1->m k=some y.val)/\(y.st≠1->m k=none):=by
 refine ⟨λh1=>(hm k _).1 (PI he hy h1).2,λh1=>?_⟩;cases hmk:m k with
 |none=>rfl
 |some v=>exact absurd ((hm k v).2 hmk) ((JO ho.good he hy h1).2 v)
end
end Go.Tab
namespace Go.Proofs.Y
open Go.ak
theorem aal (z:Array Value) (h:0<z.size):∀ n,(madeCells z (n*z.size)).toList=(List.replicate n z.toList).flatten
 |0=>by simp [madeCells]
 |n+1=>by
  have ih:=aal z h n;have hl:(madeCells z ((n+1)*z.size)).toList=(List.range ((n+1)*z.size)).map (z[· % z.size]!):=by unfold madeCells;simp
  have hl0:(madeCells z (n*z.size)).toList=(List.range (n*z.size)).map (z[· % z.size]!):=by unfold madeCells;simp
  rw [hl0]at ih;rw [hl,Nat.succ_mul,List.range_add,aef,ih,List.replicate_succ',List.flatten_append]
  congr 1
  rw [ahU];simp only [List.flatten_cons,List.flatten_nil,aei];refine List.ext_getElem yF0 λi h1 h2=>?_;have hi:i<z.size:=by simpa using h1
  simp only [List.getElem_map,List.getElem_range,Function.comp];rw [aiS n,Nat.mul_add_mod,ao3 hi,getElem!_pos z i hi,Array.getElem_toList]
section
variable {o:Nat}{t ty T e dF:Nat}{pos:String}{zs:List Value}
theorem at_make (h:Stop (wpList P ops Q (⟨dst,.makeSlice ty x y,t,pos,after,none⟩::rest) a w)):wpList P ops Q (⟨dst,.makeSlice ty x y,t,pos,after,none⟩::rest) a w:=h.o
theorem IX (hb:qJ P ty e sz dF=true) (hz:kD P e=some (.agg zs.toArray)) (hs:Sat w0 w L) (hx:a.eval x=.int .i64 n) (hy:a.eval y=.int .i64 n) (hle:dF*n<=281474976710656) (hm:n<=9223372036854775807)
  (hK:∀ b w',Sat w0 w' (aC e sz (.slice (some ⟨b,0,none⟩) n n) (List.replicate n zs).flatten::L)->wpList P ops Q rest (a.put dst (.slice (some ⟨b,0,none⟩) n n)) w') :
  wpList P ops Q (⟨dst,.makeSlice ty x y,t,pos,after,none⟩::rest) a w:=by
 obtain ⟨hu,i,z,hi,hz1,h1,h2,h3,h4⟩:=yZ hb;have hzz:z=.agg zs.toArray:=by
  unfold kD at hz;rw [hi]at hz;simp only [Option.bind_some]at hz;rw [hz1]at hz;exact aiJ hz
 subst hzz;have hzl:zs.length=sz:=by rw [<-abA];exact h3
 have hr:=run_make (P:=P) w ty e i (.agg zs.toArray) hu hi hz1 .i64 .i64 n n oQ (ape _) (by rw [h2,<-apT];omega) oQ;simp only [apH]at hr;have hS:=hs.alloc (.cells (madeCells (Value.agg zs.toArray).cells (n*i.size)) e);refine ae5 rfl λ_ hK'=>?_;unfold Oper.wp execOp;simp only [hx,hy,hr,aed,aep,adW];refine hK' _ _ (hK _ _ ?_);have hm:=aal zs.toArray (by rw [abA];omega) n;rw [abA,hzl]at hm;refine Sat.kU hS (by rw [List.length_flatten,List.map_replicate,List.sum_replicate_nat,hzl]) (ab1 _) (by rw [size_madeCells,h1];exact ab1 _) zG0 ?_;rw [h1];show (madeCells zs.toArray (n*sz)).toList.take (n*sz)=_;rw [hm,adZ (by rw [List.length_flatten,List.map_replicate,List.sum_replicate_nat,hzl];exact ab1 _)]
end
end Go.Proofs.Y
namespace Go.Tab
open Go.aj (Bs)
structure AY {V:Type} (t:Tb V) (s':List (Slot V)) (N:Nat):Prop where
 good:Good s'
 has:∀ k v,Has s' k v↔Has t.slots k v
 nf:kS s'=t.n
 nu:used s'=t.n
 lo:2*N<=s'.length
 lo8:8<=s'.length
 hi:s'.length=8\/s'.length<4*N
theorem AY.ok {V:Type}{t:Tb V}{s':List (Slot V)} (h:AY t s' (t.n+1)):(⟨s',t.n,0⟩:Tb V).Ok:=
 ⟨h.good,h.nf.symm,by rw [h.nu];rfl,by have:=h.lo;simp only;omega,by have:=h.hi;simp only;omega⟩
theorem AY.is {V:Type}{t:Tb V}{s':List (Slot V)}{N:Nat} (h:AY t s' N){m:Bs->Option V} (hm:t.Is m) (n g:Nat):(⟨s',n,g⟩:Tb V).Is m:=λk v=>(h.has k v).trans (hm k v)
theorem half_start {V:Type}{old:List (Slot V)}{x:Slot V}{c:Nat} (hc:∃ j,c=2^j/\3<=j) (hk:x.key.length=32) (hx:x.st=0):Half old (List.replicate c x) 0:=
 ⟨YA hc hk hx,λk v=>⟨λh=>absurd h (XK hx k v),λh=>by obtain ⟨i,y,hy,_⟩:=h;simp at hy⟩,by rw [XJ hx];rfl,by rw [XL hx];rfl⟩
end Go.Tab
namespace Go.Proofs.Y
open Go.ak
theorem Ey (A B vs:List Value) (i:Nat) (h:i+vs.length<=A.length):kY (A++B) i vs=kY A i vs++B:=by
 unfold kY;rw [aeT oQ,anT oQ];simp only [ad2]
theorem LU {α:Type}{f:α->List Value}{k:Nat}:∀ {l:List α}{i o:Nat}{x x':α}{vs:List Value},(∀ x∈l,(f x).length=k)->l[i]?=some x->f x'=kY (f x) o vs->o+vs.length<=k->(l.set i x').flatMap f=kY (l.flatMap f) (i*k+o) vs
 |[],_,_,_,_,_,_,h,_,_=>by cases h
 |y::l,0,o,x,x',vs,hk,h,hx,ho=>by
  obtain rfl:y=x:=by simpa using h
  rw [List.set_cons_zero,aen,aen,Nat.zero_mul,aeE,hx,Ey _ _ _ _ (by rw [hk y (.head _)];exact ho)]
 |y::l,i+1,o,x,x',vs,hk,h,hx,ho=>by
  have h0:=hk y (.head _);rw [List.set_cons_succ,aen,aen,LU (λz hz=>hk z (.tail _ hz)) yL0 hx ho,show (i+1)*k+o=(f y).length+(i*k+o) by rw [h0,Nat.succ_mul];omega,zU]
theorem acI {V:Type} (enc:V->List Value) (x:Tab.Slot V) (v:V) (hk:x.key.length=32) (he:(enc v).length=(enc x.val).length):slotL enc ⟨x.st,x.key,v⟩=kY (slotL enc x) 33 (enc v):=by
 have e:slotL enc x=(.int .i64 x.st::aB x.key)++enc x.val:=rfl;have hl:(Value.int .i64 x.st::aB x.key).length=33:=by rw [aev,aP,hk]
 rw [e,show 33=(Value.int .i64 x.st::aB x.key).length+0 by rw [hl],zU];unfold kY;rw [afC,aeV,aeE,he,ao4,aei];rfl
section
variable {T:Nat}{a:Option Addr}
theorem Ll (h:Sat w0 w (aC T sz (.slice a n c) xs::R)) (hx:0<xs.length):∃ b,a=some ⟨b,0,none⟩:=by
 rcases Sat.kL h with ⟨_,rfl,_⟩|⟨b,n',cap',cs,he,_⟩
 ·simp at hx
 ·cases he;exact ⟨b,rfl⟩
end
theorem adI (n g l:Nat) (h:n+g<=134217728) (hl:l<=1073741824) :
  IntKind.i64.wrap ((n:Int)+(g:Int))=(n:Int)+(g:Int)/\IntKind.i64.wrap ((n:Int)+(g:Int)+1)=(n:Int)+(g:Int)+1/\IntKind.i64.wrap (4*((n:Int)+(g:Int)+1))=4*((n:Int)+(g:Int)+1)/\IntKind.i64.wrap (3*(l:Int))=3*(l:Int) /\
  wrap64 ((n:Int)+(g:Int))=(n:Int)+(g:Int)/\wrap64 ((n:Int)+(g:Int)+1)=(n:Int)+(g:Int)+1/\wrap64 (4*((n:Int)+(g:Int)+1))=4*((n:Int)+(g:Int)+1)/\wrap64 (3*(l:Int))=3*(l:Int)/\IntKind.i64.wrap ((n:Int)+1)=(n:Int)+1:=
 ⟨acO _ oQ,acO _ oQ,acO _ oQ,acO _ oQ,ahX _ oQ,ahX _ oQ,ahX _ oQ,ahX _ oQ,acO _ oQ⟩
theorem akv:tH prog 345=some [(0,1),(1,32),(33,5)]:=by kernel_rfl
theorem akx:tH prog 215=some [(0,1),(1,32),(33,3)]:=by kernel_rfl
theorem zT {xs vs:List Value} (h:vs.length=xs.length):kY xs 0 vs=vs:=by
 unfold kY;rw [afC,aeV,aeE,h,ao4,aei]
theorem yF (cs:Array Value) (o:Nat) (vs:List Value) (h:o+vs.length<=cs.size):(eH cs o vs).toList=kY cs.toList o vs:=by
 rw [mV _ _ _ h,ad2];rfl
theorem SI {V:Type} (enc:V->List Value) (z:Tab.Slot V) (k:aj.Bs) (v:V) (hz:z.key.length=32) (hk:k.length=32) (he:(enc v).length=(enc z.val).length) (n:Nat) (hn:(enc z.val).length=n) :
  Ii [(0,1),(1,32),(33,n)] (slotL enc z).toArray [(0,.int .i64 1),(1,.agg (aB k).toArray),(2,.agg (enc v).toArray)]=(slotL enc ⟨1,k,v⟩).toArray:=by
 have hzl:(slotL enc z).length=33+n:=by rw [kZ enc z hz _ hn]
 show eH (eH (eH (slotL enc z).toArray 0 [.int .i64 1]) 1 (aB k)) 33 (enc v)=_;apply rY;rw [yF _ _ _ (by rw [lC,lC,abA,hzl];omega),yF _ _ _ (by rw [lC,abA,hzl,aP,hk];omega),yF _ _ _ (by rw [abA,hzl,ae3];omega)];have e:slotL enc z=[.int .i64 z.st]++(aB z.key++enc z.val):=rfl;have e1:kY (slotL enc z) 0 [.int .i64 1]=[.int .i64 1]++(aB z.key++enc z.val):=by
  rw [e,Ey _ _ _ _ (ab1 1)];rfl
 have e2:kY ([Value.int .i64 1]++(aB z.key++enc z.val)) 1 (aB k)=[Value.int .i64 1]++(aB k++enc z.val):=by
  have h0:=zU [Value.int .i64 1] (aB z.key++enc z.val) (aB k) 0;have h1:kY (aB z.key++enc z.val) 0 (aB k)=aB k++enc z.val:=by
   rw [Ey _ _ _ _ (by rw [aP,aP,hk,hz];omega),zT (by rw [aP,aP,hk,hz])]
  rw [h1]at h0;exact h0
 have e3:kY ([Value.int .i64 1]++(aB k++enc z.val)) 33 (enc v)=[Value.int .i64 1]++(aB k++enc v):=by
  have h0:=zU ([Value.int .i64 1]++aB k) (enc z.val) (enc v) 0;rw [zT he]at h0;have hl:([Value.int .i64 1]++aB k).length+0=33:=by rw [aa7,aP,hk];rfl
  rw [hl,ad2,ad2]at h0;exact h0
 simp only [];rw [e1,e2,e3];rfl
end Go.Proofs.Y
namespace Go.Tab
open Go.aj (Bs)
theorem JF:∀ (a b:Bs),Lib.compareBytes a b<0↔a<b
 |[],[]=>by simp [Lib.compareBytes]
 |[],b::bs=>by simp [Lib.compareBytes]
 |a::l,[]=>by simp [Lib.compareBytes]
 |a::l,b::bs=>by
  rw [List.cons_lt_cons_iff,<-JF l bs];rw [show Lib.compareBytes (a::l) (b::bs)=if a<b then -1 else if b<a then 1 else Lib.compareBytes l bs from rfl];by_cases h1:a<b
  ·simp [h1]
  ·rw [abL h1];by_cases h2:b<a
   ·rw [adU h2];constructor
    ·intro h;exact absurd h aG
    ·rintro (h|⟨rfl,_⟩)
     ·exact absurd h h1
     ·exact absurd h2 h1
   ·rw [abL h2];have:a=b:=by
     have h3:¬ a.toNat<b.toNat:=λh=>h1 (UInt8.lt_iff_toNat_lt.2 h);have h4:¬ b.toNat<a.toNat:=λh=>h2 (UInt8.lt_iff_toNat_lt.2 h);exact UInt8.toNat_inj.1 oQ
    subst this;constructor
    ·intro h;exact .inr ⟨rfl,h⟩
    ·rintro (h|⟨_,h⟩)
     ·exact absurd h h1
     ·exact h
end Go.Tab
namespace Go.Proofs.Y
open Go.ak
theorem Bd (b o j:Nat):(⟨b,o,none⟩:Addr).add j=⟨b,o+j,none⟩:=by unfold Addr.add;split <;> simp_all
theorem ab9 {l:aj.Bs} (h:aW 1 v (aB l) w):(Extern.Bytes.bytesOf v).run prog w=.ok ⟨l.toArray⟩ w:=by
 obtain ⟨a,n,c,rfl,hl,hx⟩:=h;rw [aP,aeo]at hl;subst hl;cases a with
 |none=>
  obtain rfl:l=[]:=by
   cases l with
   |nil=>rfl
   |cons d l=>obtain ⟨b,hb,_⟩:=hx 0 _ rfl;cases hb
  rfl
 |some ad=>
  have:=Lib.run_loadBytesX (P:=prog) w (l.map λc=>(c.toNat:Int)) ad .empty (λj x hj=>by
   rw [ad1]at hj;obtain ⟨c',hc',rfl⟩:=akB.1 hj;have hy:(aB l)[j]?=some (.int .u8 c'.toNat):=by unfold aB;rw [ad1,hc'];rfl
   obtain ⟨b,hb,hc⟩:=hx _ _ hy;cases hb;exact hc)
  rw [abl]at this;simp only [Extern.Bytes.bytesOf,this];have e:Lib.bytesOf (l.map λc=>(c.toNat:Int))=l:=by
   unfold Lib.bytesOf;rw [ahU]
   conv=>rhs;rw [<-List.map_id l]
   exact aj6 λc _=>by simp
  rw [e];show Result.ok ({ data:=(#[]:Array UInt8)++l.toArray }:ByteArray) w=_;rw [Array.empty_append]
theorem alT {x y:aj.Bs} (h1:aW 1 av (aB x) w) (h2:aW 1 bv (aB y) w):(Extern.BytealgCompare.compare #[av,bv]).run prog w=.ok (.int .i64 (Lib.compareBytes x y)) w:=by
 change Sem.run prog (do pure (goInt (Extern.BytealgCompare.cmp (<-Extern.Bytes.bytesOf av) (<-Extern.Bytes.bytesOf bv)))) w=_;simp only [aed,aep,ab9 h1,ab9 h2,Result.andThen];rw [Lib.cmp_eq]
 rfl
theorem WL (x y:aj.Bs) (h1:aW 1 av (aB x) w) (h2:aW 1 bv (aB y) w) :
  Calls prog 212 #[av,bv] w λe w'=>e=.returned (.int .i64 (Lib.compareBytes x y))/\w'=w:=by
 have hr:=alT h1 h2;generalize Lib.compareBytes x y=r at *
 clear h1 h2;go_enter func212,ntmps212;go_wp2;rw [run_callFunc_extern func248 au au au (e:=Extern.BytealgCompare.compare) au,hr];simp only [Result.andThen];rw [Oper.upon_value];go_wp2;go_ret;exact ⟨rfl,rfl⟩
open Go Go.Sl Go.ak Go.MapKept Go.RowKit Go.Sort
section
variable {α:Type} [Inhabited α] {enc:α->List Value}{k:Nat}
theorem ahd (hk:∀ x,(enc x).length=k) (h0:0<k) (d:Array α):(flatK enc k d).toList=d.toList.flatMap enc:=by
 have hl:(d.toList.flatMap enc).length=k*d.toList.length:=iK λx _=>hk x;refine List.ext_getElem (by rw [hl,ad6,size_flatK,ad6,aiS]) λt h1 h2=>?_;have ht:t<d.size*k:=by rw [ad6,size_flatK]at h1;exact h1
 have hi:t/k<d.size:=Nat.div_lt_of_lt_mul (by rw [aiS];exact ht);have hx:d.toList[t/k]?=some d[t/k]! := by
  rw [ahC,ajC hi,getElem!_pos d _ hi]
 have hm:t%k<(enc d[t/k]!).length:=by rw [hk];exact anD _ h0
 have hr:=LQ (l:=d.toList) (f:=enc) (k:=k) (λx _=>hk x) hx (aaJ hm);rw [show t/k*k+t%k=t by rw [aiS];exact Nat.div_add_mod t k,aaJ h2]at hr;rw [aiJ hr,Array.getElem_toList,<-getElem!_pos (flatK enc k d) t (by rw [size_flatK];exact ht),get_flatK _ _ _ _ ht];exact getElem!_pos (enc d[t/k]!) (t%k) hm
end
section
variable {g:Nat}{os:Array Obj}
theorem ahP {fr:Nat×Nat} (d:Array Value) (hb:w.heap[g]?=some (.cells cs T fr)):(grow (putRow id (Sort.ahead w n) g 0 d) os).heap[g]?=some (.cells (putCells id 0 d cs) T fr):=by
 have hg:g<w.heap.size:=(anR.1 hb).1;rw [heap_grow_old _ _ (by simpa using hg)];simp [putRow,mapBlock,Sort.ahead,anQ,hb,onCells]
theorem ahz (d:Array Value):w.grownBy (grow (putRow id (Sort.ahead w n) g 0 d) os) (some g):=by
 refine ⟨rfl,rfl,rfl,by simp,λk hk hne=>?_⟩;rw [heap_grow_old _ _ (by simpa using hk)];have:g≠k:=λe=>hne (by rw [e]);simp [putRow,mapBlock,Sort.ahead,anQ,this]
theorem ano (d:Array Value) (h:d.size<=cs.size):(putCells id 0 d cs).toList.take d.size=d.toList:=by
 apply apV;intro j;by_cases hj:j<d.size
 ·rw [List.getElem?_take_of_lt hj,ahC];simp [putCells,hj,show j<cs.size by omega]
 ·rw [List.getElem?_take_eq_none oQ,aiT yT0]
theorem ams (hp:Sat w0 w (pt g (.cells cs T (0,0))::R)) (d:Array Value):Sat w0 (grow (putRow id (Sort.ahead w n) g 0 d) os) (pt g (.cells (putCells id 0 d cs) T (0,0))::R):=by
 have hg:=ahz (w:=w) (g:=g) (n:=n) (os:=os) d;exact hp.turn hg.os hg.tape hg.output hg.size (ahP (n:=n) (os:=os) d hp.at) (λi hi hlt=>hg.block i hlt (by simpa using hi))
theorem ah1 {d:Array Value} (hb:w.heap[g]?=some (.cells cs T (0,0))) (ht:cs.toList.take d.size=d.toList):Holds id w g 0 d:=by
 intro j hj;refine ⟨?_,by simp [World.frozen?,hb]⟩;have h1:(cs.toList.take d.size)[j]?=d.toList[j]?:=by rw [ht]
 rw [List.getElem?_take_of_lt hj]at h1;simp only [World.cell?,hb,aeE];simp only [Option.isSome_none,aip,ao7];rw [<-ahC,h1,ahC,ajC hj,getElem!_pos d j hj]
 rfl
end
end Go.Proofs.Y
namespace Go.Tab
open Go.aj (Bs)
open Go.Sort
theorem am5 {V:Type} (key:V->Bs):SWO (Go.Proofs.ltOf λx y=>Lib.compareBytes (key x) (key y)):=by
 have e:∀ x y,Go.Proofs.ltOf (λx y=>Lib.compareBytes (key x) (key y)) x y=decide (key x<key y):=λx y=>by
  unfold Go.Proofs.ltOf;rw [aoT,ad5,ad5];exact JF _ _
 refine ⟨λx=>?_,λx y z=>?_,λx y z=>?_⟩
 ·rw [e,aeJ];exact aps _
 ·rw [e,e,e,ad5,ad5,ad5];exact apL
 ·rw [e,e,e,aeJ,aeJ,aeJ];intro h1 h2 h3;rcases FZ (key x) (key y) with q|q|q
  ·exact h1 q
  ·exact h2 (q ▸ h3)
  ·rcases FZ (key y) (key z) with p|p|p
   ·exact h2 p
   ·exact aps _ (apL q (p ▸ h3))
   ·exact aps _ (apL (apL h3 p) q)
theorem amP {V:Type} [Inhabited V] {key:V->Bs}{d d':Array V} (hp:PermIn 0 d.size d d') (hs:SortedIn (Go.Proofs.ltOf λx y=>Lib.compareBytes (key x) (key y)) 0 d.size d') :
  d'.toList.Perm d.toList/\d'.toList.Pairwise λa b=>¬ key b<key a:=by
 obtain ⟨h1,_,h3⟩:=hp;constructor
 ·have e:∀ a:Array V,a.extract 0 a.size=a:=λa=>by simp
  have h3':=h3;rw [e d,<-h1,e d']at h3';exact h3'
 ·rw [ao8];intro i j hi hj hij;rw [ad6]at hi hj;have:=hs i j (ad4 _) hij oQ;rw [getElem!_pos d' i hi,getElem!_pos d' j hj]at this;unfold Go.Proofs.ltOf at this;rw [aeJ,JF]at this;simpa using this
theorem KG {V:Type}{s l:List (Slot V)}{m:Bs->Option V} (g:Good s) (hm:∀ k v,Has s k v↔m k=some v) (hp:l.Perm (s.filter λx=>decide (x.st=1))) (hs:l.Pairwise λa b=>¬ b.key<a.key) :
  Lists m (l.map λx=>(x.key,x.val))/\∀ x∈l,x.st=1/\x.key.length=32:=by
 have hmem:∀ x,x∈l↔x∈s/\x.st=1:=λx=>by rw [hp.mem_iff,aex,ad5]
 have hnd:l.Pairwise λa b=>a.key≠b.key:=by
  have h0:(s.filter λx=>decide (x.st=1)).Pairwise λa b=>a.key≠b.key:=by
   rw [List.pairwise_filter,ao8];intro i j hi hj hij h1 h2 h3;have:=g.one (aaJ hi) (aaJ hj) (by simpa using h1) (by simpa using h2) h3;omega
  exact (hp.pairwise_iff (λ{a b} h=>Ne.symm h)).2 h0
 refine ⟨⟨?_,λk v=>?_⟩,λx hx=>⟨((hmem x).1 hx).2,g.key x ((hmem x).1 hx).1⟩⟩
 ·rw [ahB];refine (hs.and hnd).imp λ{a b} h=>?_;rcases FZ a.key b.key with q|q|q
  ·exact q
  ·exact absurd q h.2
  ·exact absurd q h.1
 ·rw [<-hm,adu];constructor
  ·rintro ⟨x,hx,e⟩;obtain ⟨a,b⟩:=(hmem x).1 hx;obtain ⟨i,hi,he⟩:=aoI a;cases e;exact ⟨i,x,by rw [aaJ hi,he],b,rfl,rfl⟩
  ·rintro ⟨i,x,hi,a,rfl,rfl⟩;exact ⟨x,(hmem x).2 ⟨acr hi,a⟩,rfl⟩
end Go.Tab
namespace Go.Proofs.Y
open Go.ak
section
variable {k:aj.Bs}{s:List (Tab.Slot (Rep.dU))}{a:Option Addr}
theorem Sj (hl:0<s.length) (h:Sat w0 w (fV p 306 (.slice a s.length c) n gn::F)) :
  Calls prog 234 #[ptr p] w (aN λv w'=>v=.bool true/\w=w'):=by
 have e0:w.cell? ⟨p,0,none⟩=some (.slice a s.length c):=h.cellAt 0 _ rfl;have c1:(0:Int)<(s.length:Int):=oQ;go_enter func234,ntmps234;go_wp2;go_ret;exact ⟨_,rfl,rfl,rfl⟩
theorem Rf {p : Prop} (h : p := by
 have Hk:=uQ hk;have HG:=uQ g;have HE:=uQ he;have Hc:=uQ hc;have Hlen:=uQ (show ∀ x∈s,(slotL kP x).length=lG from λx hx=>kZ kP x (g.key x hx) qU (IJ _));obtain ⟨la,lc,rfl⟩:=iP Hlen.o (Sat.rd (h.pick aT)) aG;obtain ⟨j,hj,_⟩:=g.pow;have Y1:j<40:=by
  rcases aiN j 40 with q|q
  ·exact q
  ·have:2^40<=2^j:=aoS aG q;have JW:(2:Nat)^40=1099511627776:=by decide
   ((try simp only [lG,qU,tV,mY] at *);omega)
 have Hj:=uQ hj;have Vr:=uQ Y1;have Hd:=uQ (show d<s.length from he.lt);have hp0:0<s.length:=g.lU;have lJ:=uQ hp0;have Hpz:=uQ (Tab.akF (k:=k) hp0);clear hj Y1 hk g he hc hp0;go_enter Uz,UE;go_wp2_with ((with_reducible refine fC ⟨?_⟩);refine fB aQ ay ay ?_;intro bB wB hB);have hB1:=hB.drew;clear hB;refine eF [6,7] (λw'=>w'.rangeAt bB 0 (aB k)/\w'.cell? ⟨p,0,none⟩=some (.slice la s.length lc)) au ?_;have hG:World.rangeAt _ bB 0 (aB k)/\World.cell? _ ⟨p,0,none⟩=some (.slice la s.length lc):=⟨qp (hB1.pk (A:=pt bB (.cells (aB k).toArray 34 (0,0)))),hB1.cellP bK 0 rfl⟩;refine gJ 0 ay au bP (lM (b:=bB) (o:=0) (aB k) ah underlying34 rfl zF0 (λw hw=>hw.1)) aQ gQ ?_;refine rP 1 ?_ (y:=bD);refine rP 2 ?_ (y:=iG);refine rP 3 ?_ (y:=dh);refine rt 4 (h:=?_);refine rP 5 ?_ (y:=(xw ay bY));clear hG;have hh:=ah2 k Hk.o j Vr.o hB1;rw [<-Hj.o]at hh
 refine cZ 6 ay au (λK hK=>?_)
 (refine jB au ay ay ?_)
 refine hh.mono ?_;rintro ee w2 ⟨v,rfl,rfl,hS2⟩;refine hK _ _ (.inl rfl) ?_;clear hK hh hB1;refine rP 7 ?_ (y:=jU);refine dX au ?_
 try simp only [jI]
 try go_frame
 rw [<-Hpz.o];go_wp2_with fail
 go_loopg [7,8] d (λg aq sq wr=>∃ e:Nat,g=d-e/\e<=d/\aq=.int .i64 (Tab.pos k s.length e:Nat)/\sq=.int .i64 ((e:Int)+1) /\
  Sat w0 wr (pt bB (.cells (aB k).toArray 34 (0,0))::fV p tV (.slice la s.length lc) n gn::aC mY lG (.slice la s.length lc) (s.flatMap (slotL kP))::F))
 case atStart=>exact ⟨0,rfl,ad4 _,rfl,rfl,hS2.sb⟩
 case round=>
  obtain ⟨e,rfl,hed,rfl,rfl,hS⟩:=hrel;clear hS2;have hlt:=Tab.rX (k:=k) (d:=e) lJ.o;have hdl:=Hd.o;have hcl:=Hc.o;obtain ⟨x,hx⟩:∃ x,s[Tab.pos k s.length e]?=some x:=⟨_,aaJ hlt⟩;have hxm:=acr hx;have hst:=HG.o.st x hxm;have Hxk:=uQ (HG.o.key x hxm);obtain ⟨bk,off,c',hsv,hcell⟩:=iL Hlen.o (Sat.rd (hS.pick fE)) hx aG;have sJ:=uQ (Tab.akE (k:=k) (d:=e) lJ.o);have VD:=uQ (Wh (Tab.pos k s.length e+1) j oQ (by have:=Vr.o;((try simp only [lG,qU,tV,mY] at *);omega)))
  have yV:=uQ (show e=d↔x.stop k from ⟨λh=>by
    subst h;obtain ⟨y,hy,hs⟩:=HE.o.here;rw [hx]at hy;cases hy;exact hs,λh=>by
    rcases aiN e d with q|q
    ·exact absurd ⟨x,hx,h⟩ (HE.o.no e q)
    ·((try simp only [lG,qU,tV,mY] at *);omega)⟩)
  have Hx:=uQ hx;cases hsv;have c0:(0:Int)<=((Tab.pos k s.length e:Nat):Int):=oQ;have c1:((Tab.pos k s.length e:Nat):Int)<(s.length:Int):=oQ;have c2:Tab.pos k s.length e<s.length:=hlt;have e0:wr.cell? ⟨p,0,none⟩=some (.slice (some ⟨bk,off,none⟩) s.length lc):=hS.cellP bK 0 rfl;have gB:=Hlen.o x hxm;clear hx hxm;have hq:bits .and .i64 (((Tab.pos k s.length e:Nat):Int)+1) ((s.length:Int)-1)=((Tab.pos k s.length (e+1):Nat):Int):=by
   have h1:=VD.o;rw [<-Hj.o,sJ.o]at h1;rw [<-h1]
   congr 1
   have:=lJ.o
   ((try simp only [lG,qU,tV,mY] at *);omega)
  have hw1:IntKind.i64.wrap (((Tab.pos k s.length e:Nat):Int)+1)=((Tab.pos k s.length e:Nat):Int)+1:=acO _ oQ;have hw2:IntKind.i64.wrap ((s.length:Int)-1)=(s.length:Int)-1:=acO _ oQ;have hw3:IntKind.i64.wrap ((e:Int)+1+1)=(e:Int)+1+1:=acO _ oQ;clear hdl hcl;generalize hP1:Tab.pos k s.length (e+1)=P1 at hq;have Vd:=uQ hP1;generalize hP:Tab.pos k s.length e=P0 at *
  have HP:=uQ hP;clear hP1 hP hlt VD sJ;have Vk:=uQ hed;clear hed;go_wp2_with (with_reducible apply bC);refine ⟨eY hS ah bK bG ay au ?_⟩;go_wp2_with (with_reducible apply bC);refine ⟨iD (b:=bk) (o:=off+P0*lG) (slotL kP x) ah hcell UG rfl yN0 ?_⟩;go_wp2_with (with_reducible apply eG);refine ⟨eU UH hS rfl ?_⟩;intro b9 w9 iU;go_wp2_with (first|((with_reducible refine bW ⟨?_⟩);refine fG (slotL kP x).toArray iU ah ah zC0 bU yK0 (by rw [ad7];exact pX kP x (MP _)) ?_;intro w10 dG)|(with_reducible apply bC));refine ⟨?_⟩;clear hS iU hcell e0;have f0:w10.cell? ⟨b9,0,none⟩=some (.int .i64 x.st):=dG.cellP aK 0 (by rw [aeh];rfl);have f1:w10.rangeAt b9 1 (aB x.key):=Df (dG.pick aK);have f2:w10.cell? ⟨p,0,none⟩=some (.slice (some ⟨bk,off,none⟩) s.length lc):=dG.cellP bK 0 rfl
  have hend:Sat w0 w10 (pt bB (.cells (aB k).toArray 34 (0,0))::fV p tV (.slice (some ⟨bk,off,none⟩) s.length lc) n gn::aC mY lG (.slice (some ⟨bk,off,none⟩) s.length lc) (s.flatMap (slotL kP))::F):=dG.sb;have h3:x.st=0\/x.st=1\/x.st=2:=oQ;rcases h3 with h3|h3|h3
  ·have h4:e=d:=yV.o.2 (.inl h3);rw [h3]at f0;have Hdx:=uQ (show decide (x.st=1)=false by rw [h3];rfl);have o9:=uQ (show (x.st:Int)=0 by rw [h3];rfl);clear yV hst h3 f1 f2 hq hw1 hw2 hw3 c0 c1 c2;subst h4;go_wp2_with fail;have pO:=dG.drew;clear dG;refine eF [4,7] (λw'=>w'.cell? ⟨b9,0,none⟩=some (.int .i64 0)) au ?_;have hG:World.cell? _ ⟨b9,0,none⟩=some (.int .i64 0):=pO.cellP aK 0 (by rw [aeh,<-o9.o];rfl);clear f0;refine rP 0 ?_ (y:=bD);refine rP 1 ?_ (y:=bD);refine rP 2 ?_ (y:=dh);refine rt 3 (h:=?_);refine rP 4 ?_ (y:=lZ);refine rP 5 ?_ (y:=jU);refine rP 6 ?_ (y:=jU);refine rP 7 ?_ (y:=jU);refine dX au ?_;clear hG
   try simp only [jI]
   try go_frame
   go_wp2_with fail
   go_ret3
   exact ⟨_,rfl,x,by rw [HP.o];exact Hx.o,by rw [HP.o,Hdx.o];rfl,pO.sb⟩
  ·have f3:w10.rangeAt bB 0 (aB k):=qp (dG.pk (A:=pt bB (.cells (aB k).toArray 34 (0,0))));have hkk:=XY x.key k Hxk.o Hk.o;rw [h3]at f0;by_cases hxk:x.key=k
   ·have h4:e=d:=yV.o.2 (.inr ⟨h3,hxk⟩);have Hdx:=uQ (show decide (x.st=1)=true by rw [h3];rfl);have o9:=uQ (show (x.st:Int)=1 by rw [h3];rfl);rw [aem hxk]at hkk;clear yV hst h3 hxk hq hw1 hw2 hw3 c0 c1 c2 f2;subst h4
    go_wp2_with (first
     |((with_reducible refine Jv ⟨?_⟩);refine Nj (o:=1) ah ah (aB x.key) _ f1 underlying34 rfl yQ0 ?_)
     |((with_reducible refine Jv ⟨?_⟩);refine Nj (o:=0) ah ah (aB k) _ f3 underlying34 rfl zF0 ?_))
    clear hkk f1 f3;have pO:=dG.drew;clear dG;refine eF [4,7] (λw'=>w'.cell? ⟨b9,0,none⟩=some (.int .i64 1)) au ?_;have hG:World.cell? _ ⟨b9,0,none⟩=some (.int .i64 1):=pO.cellP aK 0 (by rw [aeh,<-o9.o];rfl);clear f0;refine rP 0 ?_ (y:=bD);refine rP 1 ?_ (y:=bD);refine rP 2 ?_ (y:=dh);refine rt 3 (h:=?_);refine rP 4 ?_ (y:=lZ);refine rP 5 ?_ (y:=jU);refine rP 6 ?_ (y:=jU);refine rP 7 ?_ (y:=jU);refine dX au ?_;clear hG
    try simp only [jI]
    try go_frame
    go_wp2_with fail
    go_ret3
    exact ⟨_,rfl,x,by rw [HP.o];exact Hx.o,by rw [HP.o,Hdx.o];rfl,pO.sb⟩
   ·have h4:e<d:=by
     have:=Vk.o;rcases aiN e d with q|q
     ·exact q
     ·exact absurd (yV.o.1 oQ) (λh=>h.elim (λh=>by ((try simp only [lG,qU,tV,mY] at *);omega)) λh=>hxk h.2)
    rw [aea hxk]at hkk;have H4:=uQ h4;clear yV hst h3 hxk h4
    go_wp2_with (first
     |((with_reducible refine Jv ⟨?_⟩);refine Nj (o:=1) ah ah (aB x.key) _ f1 underlying34 rfl yQ0 ?_)
     |((with_reducible refine Jv ⟨?_⟩);refine Nj (o:=0) ah ah (aB k) _ f3 underlying34 rfl zF0 ?_))
    go_roundg (d-(e+1))
    case measure=>have:=H4.o;((try simp only [lG,qU,tV,mY] at *);omega)
    case rel=>exact ⟨e+1,rfl,H4.o,by rw [Vd.o],by first|rfl|go_num,dG.sb⟩
  ·have h4:e<d:=by
    have:=Vk.o;rcases aiN e d with q|q
    ·exact q
    ·exact absurd (yV.o.1 oQ) (λh=>h.elim (λh=>by ((try simp only [lG,qU,tV,mY] at *);omega)) λh=>by ((try simp only [lG,qU,tV,mY] at *);omega))
   rw [h3]at f0;have H4:=uQ h4;clear yV hst h3 f1 h4;go_wp2_with fail
   go_roundg (d-(e+1))
   case measure=>have:=H4.o;((try simp only [lG,qU,tV,mY] at *);omega)
   case rel=>exact ⟨e+1,rfl,H4.o,by rw [Vd.o],by first|rfl|go_num,dG.sb⟩) : p := h
abbrev dM.kP:=@fA
abbrev dM.lG:Nat:=38
abbrev dM.qU:Nat:=5
theorem dM.IJ:type_of% @FW:=@FW
theorem dM.Uz:type_of% @func235:=@func235
theorem dM.UE:type_of% @ntmps235:=@ntmps235
abbrev dM.tV:Nat:=306
abbrev dM.mY:Nat:=345
theorem dM.UG:type_of% @underlying345:=@underlying345
theorem dM.UH:type_of% @Dv:=@Dv
theorem dM.MP:type_of% @DV:=@DV
open dM in
theorem Ya (g:Tab.Good s) (hc:s.length<=1073741824) (hk:k.length=32) (he:Tab.Ends s k d) (h:Sat w0 w (fV p 306 sv n gn::aC 345 38 sv (s.flatMap (slotL fA))::F)) :
  Calls prog 235 #[ptr p,.agg (aB k).toArray] w (aN λv w'=>∃ x,s[Tab.pos k s.length d]?=some x/\v=.tuple #[.int .i64 (Tab.pos k s.length d:Nat),.int .i64 ((d:Int)+1),.bool (decide (x.st=1))] /\
   Sat w0 w' (fV p 306 sv n gn::aC 345 38 sv (s.flatMap (slotL fA))::F)):=Rf
end
section
variable {k:aj.Bs}{s:List (Tab.Slot (Seg.aZ))}{a:Option Addr}
theorem Ie (hl:0<s.length) (h:Sat w0 w (fV p 217 (.slice a s.length c) n gn::F)) :
  Calls prog 123 #[ptr p] w (aN λv w'=>v=.bool true/\w=w'):=by
 have e0:w.cell? ⟨p,0,none⟩=some (.slice a s.length c):=h.cellAt 0 _ rfl;have c1:(0:Int)<(s.length:Int):=oQ;go_enter func123,ntmps123;go_wp2;go_ret;exact ⟨_,rfl,rfl,rfl⟩
abbrev dN.kP:=@bT
abbrev dN.lG:Nat:=36
abbrev dN.qU:Nat:=3
theorem dN.IJ:type_of% @yC:=@yC
theorem dN.Uz:type_of% @func172:=@func172
theorem dN.UE:type_of% @ntmps172:=@ntmps172
abbrev dN.tV:Nat:=217
abbrev dN.mY:Nat:=215
theorem dN.UG:type_of% @underlying215:=@underlying215
theorem dN.UH:type_of% @yO:=@yO
theorem dN.MP:type_of% @yD:=@yD
open dN in
theorem Yb (g:Tab.Good s) (hc:s.length<=1073741824) (hk:k.length=32) (he:Tab.Ends s k d) (h:Sat w0 w (fV p 217 sv n gn::aC 215 36 sv (s.flatMap (slotL bT))::F)) :
  Calls prog 172 #[ptr p,.agg (aB k).toArray] w (aN λv w'=>∃ x,s[Tab.pos k s.length d]?=some x/\v=.tuple #[.int .i64 (Tab.pos k s.length d:Nat),.int .i64 ((d:Int)+1),.bool (decide (x.st=1))] /\
   Sat w0 w' (fV p 217 sv n gn::aC 215 36 sv (s.flatMap (slotL bT))::F)):=Rf
end
def fJ (p:Nat) (m:aj.Bs->Option (Rep.dU)) (B:Nat):aF:=λh=>∃ (t:Tab.Tb (Rep.dU)) (sv:Value),(t.Ok/\t.Is m/\t.n+t.gone<=B)/\stars [fV p 306 sv t.n t.gone,aC 345 38 sv (t.slots.flatMap (slotL fA))] h
theorem I8:kD prog 254=some (.agg (fA ⟨0,Seg.aZ.zero,0⟩).toArray):=by kernel_rfl
section
variable {B:Nat}{k:aj.Bs}{m:aj.Bs->Option (Rep.dU)}{t:Tab.Tb (Rep.dU)}
theorem fJ.open (h:Sat w0 w (fJ p m B::F)):∃ (t:Tab.Tb (Rep.dU)) (sv:Value),(t.Ok/\t.Is m/\t.n+t.gone<=B)/\Sat w0 w (fV p 306 sv t.n t.gone::aC 345 38 sv (t.slots.flatMap (slotL fA))::F):=by
 obtain ⟨ha,x,hx,q,r,dd,rfl,⟨t,sv,hin,hp⟩,hq⟩:=h;refine ⟨t,sv,hin,ha,_,hx,?_⟩;show stars ([fV p 306 sv t.n t.gone,aC 345 38 sv (t.slots.flatMap (slotL fA))]++F) _;rw [qx];exact ⟨q,r,dd,rfl,hp,hq⟩
theorem fJ.shut (h1:t.Ok) (h2:t.Is m) (h3:t.n+t.gone<=B) (h:Sat w0 w (fV p 306 sv t.n t.gone::aC 345 38 sv (t.slots.flatMap (slotL fA))::F)):Sat w0 w (fJ p m B::F):=
 Sat.join (M:=[fV p 306 sv t.n t.gone,aC 345 38 sv (t.slots.flatMap (slotL fA))]) h λ_ hx=>⟨t,sv,⟨h1,h2,h3⟩,hx⟩
theorem ajL (h:Sat w0 w F):Calls prog 150 #[] w (aN λv w'=>∃ p,v=ptr p/\Sat w0 w' (fJ p (λ_=>none) 0::F)):=by
 go_enter func150,ntmps150
 go_wp2_with (first
  |((with_reducible refine at_make ⟨?_⟩);refine IX (e:=345) (sz:=38) (dF:=80) (n:=8) au Dv h ah ah aG aG ?_;intro bM wM hM)
  |((with_reducible refine fC ⟨?_⟩);refine fB hM ay ay ?_;intro bB wB hB))
 go_ret;refine ⟨_,rfl,bB,rfl,?_⟩;have e:(List.replicate 8 (slotL fA ⟨0,aj.zero32,yQ⟩)).flatten=(List.replicate 8 (⟨0,aj.zero32,yQ⟩:Tab.Slot (Rep.dU))).flatMap (slotL fA):=(Iq 8 _).symm;rw [e]at hB;exact fJ.shut (t:=⟨List.replicate 8 ⟨0,aj.zero32,yQ⟩,0,0⟩) (Tab.Ry aG rfl) (Tab.Rx rfl 0 0) (ab1 0) hB
theorem aad {p : Prop} (h : p := by
 obtain ⟨t,sv,⟨ok,is,hb⟩,hR⟩:=Ut h;obtain ⟨d,he⟩:=ok.ends k;have hsz:t.slots.length<=1073741824:=by have:=ok.size;((try simp only [dZ,iM,jc,mJ,gW] at *);omega)
 have Hlen:=uQ (show ∀ x∈t.slots,(slotL dL x).length=dZ from λx hx=>kZ dL x (ok.good.key x hx) iM (Dj _));obtain ⟨la,lc,rfl⟩:=iP Hlen.o (Sat.rd (hR.pick aT)) aG;have Hk:=uQ hk;have bI:=uQ ok;have kF:=uQ is;have Hb:=uQ hb;have He:=uQ he;have iQ:=uQ hsz;have lJ:=uQ ok.good.lU;clear h hk ok is hb he hsz hB;go_enter ac1,ac2;go_wp2_with (first|((with_reducible refine fC ⟨?_⟩);refine fB aQ ay ay ?_;intro bB wB hB)|(with_reducible apply eG));refine ⟨eU Uu hB rfl ?_⟩;intro b4 w4 hS4;go_wp2_with (with_reducible apply eG);refine ⟨eU Uu hS4 rfl ?_⟩;intro b6 w6 hS6;have J4:Sat w0 w6 (fV p jc (.slice la t.slots.length lc) t.n t.gone::pt b6 (.cells (dL xk).toArray mJ (0,0))::pt b4 (.cells (dL xk).toArray mJ (0,0))::pt bB (.cells (aB k).toArray 34 (0,0))::aC gW dZ (.slice la t.slots.length lc) (t.slots.flatMap (slotL dL))::F):=hS6.sb;clear hB hS4 hS6 hR;go_wp2_with fail
 refine (Uw lJ.o J4).mono ?_;rintro ee w7 ⟨v,rfl,rfl,rfl⟩;go_wp2_with ((with_reducible refine bC ⟨?_⟩);refine iC J4 ah (aU (aU (aU aK))) underlying34 rfl (by rw [abA,aP,Hk.o];kernel_rfl) ?_);have hf:=IG bI.o.good iQ.o Hk.o He.o (J4.sb:Sat w0 w6 (fV p jc (.slice la t.slots.length lc) t.n t.gone::aC gW dZ (.slice la t.slots.length lc) (t.slots.flatMap (slotL dL))::pt b6 (.cells (dL xk).toArray mJ (0,0))::pt b4 (.cells (dL xk).toArray mJ (0,0))::F));clear J4;refine hf.mono ?_;rintro ee w8 ⟨v,rfl,x,hx,rfl,kJ⟩;clear hf;obtain ⟨m1,m2⟩:=kF.o.some bI.o He.o hx;have hxm:=acr hx;have hxk:=bI.o.good.key x hxm;obtain ⟨bk,off,c',hsv,hcell⟩:=iL Hlen.o (Sat.rd (kJ.pick aT)) hx aG;cases hsv;have hlt:=Tab.rX (k:=k) (d:=d) lJ.o;have hval:∀ j v,(dL x.val)[j]?=some v->w8.cell? ⟨bk,off+Tab.pos k t.slots.length d*dZ+33+j,none⟩=some v:=λj v hj=>by
  rw [apq _ 33 j];exact hcell (33+j) v (acJ dL x hxk hj)
 clear hcell hx hxm;generalize Tab.pos k t.slots.length d=P0 at *
 have c0:(0:Int)<=(P0:Int):=oQ;have c1:(P0:Int)<(t.slots.length:Int):=oQ;have e0:w8.cell? ⟨p,0,none⟩=some (.slice (some ⟨bk,off,none⟩) t.slots.length lc):=kJ.cellP bK 0 rfl;by_cases h1:x.st=1
 ·have hd:decide (x.st=1)=true:=aem h1;have Hm:=uQ (m1 h1);clear m1 m2 h1
  go_wp2_with (first
   |((with_reducible refine bC ⟨?_⟩);refine eY kJ ah bK bG ay au ?_)
   |((with_reducible refine bC ⟨?_⟩);refine iD (b:=bk) (o:=off+P0*dZ+33) (dL x.val) ah hval Ac rfl au ?_)
   |((with_reducible refine bW ⟨?_⟩);refine fG (dL x.val).toArray kJ ah ah ah (lN (lN (lN bU))) au ah ?_;intro w10 dG))
  refine ⟨rfl,_,SY rfl dG ah bK Ac rfl au,_,rfl,?_,II bI.o kF.o Hb.o (dG.sb)⟩;rw [Hm.o];rfl
 ·have hd:decide (x.st=1)=false:=aea h1;have Hm:=uQ (m2 h1);clear m1 m2 h1
  go_wp2_with (first
   |((with_reducible refine bC ⟨?_⟩);refine iC kJ ah (aU (aU (aK (A:=pt b6 (.cells (dL xk).toArray mJ (0,0)))))) Ac rfl au ?_)
   |((with_reducible refine bW ⟨?_⟩);refine fG (dL xk).toArray kJ ah ah ah (lN (lN (lN bU))) au ah ?_;intro w10 dG))
  refine ⟨rfl,_,SY rfl dG ah (aU (aU (aU aK))) Ac rfl au,_,rfl,?_,II bI.o kF.o Hb.o (dG.sb)⟩;rw [Hm.o];rfl) : p := h
theorem dM.Ut:type_of% @fJ.open:=@fJ.open
abbrev dM.dL:=@fA
abbrev dM.dZ:Nat:=38
abbrev dM.iM:Nat:=5
theorem dM.Dj:type_of% @FW:=@FW
theorem dM.ac1:type_of% @func194:=@func194
theorem dM.ac2:type_of% @ntmps194:=@ntmps194
theorem dM.Uu:type_of% @I8:=@I8
abbrev dM.jc:Nat:=306
abbrev dM.xk:=@yQ
abbrev dM.mJ:Nat:=254
abbrev dM.gW:Nat:=345
theorem dM.Uw:type_of% @Sj:=@Sj
theorem dM.IG:type_of% @Ya:=@Ya
theorem dM.Ac:type_of% @underlying254:=@underlying254
theorem dM.II:type_of% @fJ.shut:=@fJ.shut
open dM in
theorem ahr (hB:B<=268435000) (hk:k.length=32) (h:Sat w0 w (fJ p m B::F)) :
  Calls prog 194 #[ptr p,.agg (aB k).toArray] w (aN λv w'=>v=.tuple #[.agg (fA ((m k).getD ⟨0,Seg.aZ.zero,0⟩)).toArray,.bool (m k).isSome]/\Sat w0 w' (fJ p m B::F)):=aad
end
end Go.Proofs.Y
