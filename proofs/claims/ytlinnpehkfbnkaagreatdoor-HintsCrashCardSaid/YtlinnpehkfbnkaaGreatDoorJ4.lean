import Derived.Test.YtlinnpehkfbnkaaGreatDoorJ3
import Derived.Laws.IdiomStrings
import Derived.Lib.BufferRead
namespace Go.Proofs.YtlinnpehkfbnkaaGreatDoor
open Go Go.Sl Go.Med Go.MapKept Go.RowKit
theorem sQ {p : Prop} (h : p := by first | assumption | exact entA_size _ _ rfl | exact entA_size _ _ aQ | exact entA_size _ _ (Hid.out aQ)) : p := h
theorem pQ {p : Prop} (h : p := by first | (simp only [putsAt, Value.cells]; (try go_frame); first | done | rfl) | rfl) : p := h
theorem gQ {p : Prop} (h : p := by go_frame; first | done | rfl) : p := h
theorem fQ {p : Prop} (h : p := by first | rfl | assumption | exact Hid.out aQ) : p := h
theorem wQ {p : Prop} (h : p := by with_reducible rfl) : p := h
end Go.Proofs.YtlinnpehkfbnkaaGreatDoor
set_option linter.unusedVariables false
set_option maxHeartbeats 128000000
namespace Go.Med
structure Cal where
 kind:Int
 name:ByteArray
 to:ByteArray
 n:Int
 m:Int
 b:Bs
 l:List Int
def lowByte (m:Int):UInt8:=UInt8.ofNat (m%256).toNat
def Med.does (M:Med) (x:Cal):Med×(Bs×Int×Bool):=
 if x.kind=0 then ((M.create x.name).1,[],(M.create x.name).2,false)
 else if x.kind=1 then ((M.append x.name x.b).1,[],(M.append x.name x.b).2,false)
 else if x.kind=2 then ((M.truncate x.name x.n).1,[],(M.truncate x.name x.n).2,false)
 else if x.kind=3 then ((M.rename x.name x.to).1,[],(M.rename x.name x.to).2,false)
 else if x.kind=4 then ((M.remove x.name).1,[],(M.remove x.name).2,false)
 else if x.kind=5 then ((M.sync x.name).1,[],(M.sync x.name).2,false)
 else if x.kind=6 then (M.syncDir.1,[],M.syncDir.2,false)
 else if x.kind=7 then ((M.arm x.n).1,[],(M.arm x.n).2,false)
 else if x.kind=8 then (M.crash x.l,[],0,false)
 else if x.kind=9 then ((M.setRoom x.n).1,[],(M.setRoom x.n).2,false)
 else if x.kind=10 then ((M.rot x.name x.n (lowByte x.m)).1,[],0,(M.rot x.name x.n (lowByte x.m)).2)
 else (M,(M.read x.name x.n x.m).1,(M.read x.name x.n x.m).2,false)
theorem Med.does_ind {P:Med×Bs×Int×Bool→Prop}{M:Med}{x:Cal}
  (h0:x.kind=0→P ((M.create x.name).1,[],(M.create x.name).2,false))
  (h1:x.kind=1→P ((M.append x.name x.b).1,[],(M.append x.name x.b).2,false))
  (h2:x.kind=2→P ((M.truncate x.name x.n).1,[],(M.truncate x.name x.n).2,false))
  (h3:x.kind=3→P ((M.rename x.name x.to).1,[],(M.rename x.name x.to).2,false))
  (h4:x.kind=4→P ((M.remove x.name).1,[],(M.remove x.name).2,false))
  (h5:x.kind=5→P ((M.sync x.name).1,[],(M.sync x.name).2,false))
  (h6:x.kind=6→P (M.syncDir.1,[],M.syncDir.2,false))
  (h7:x.kind=7→P ((M.arm x.n).1,[],(M.arm x.n).2,false))
  (h8:x.kind=8→P (M.crash x.l,[],0,false))
  (h9:x.kind=9→P ((M.setRoom x.n).1,[],(M.setRoom x.n).2,false))
  (h10:x.kind=10→P ((M.rot x.name x.n (lowByte x.m)).1,[],0,(M.rot x.name x.n (lowByte x.m)).2))
  (hz:x.kind≠0∧x.kind≠1∧x.kind≠2∧x.kind≠3∧x.kind≠4∧x.kind≠5∧x.kind≠6∧x.kind≠7∧x.kind≠8∧x.kind≠9∧x.kind≠10→P (M,(M.read x.name x.n x.m).1,(M.read x.name x.n x.m).2,false)):P (M.does x):=by
 unfold Med.does
 by_cases c0:x.kind=0;· rw [if_pos c0];exact h0 c0
 rw [if_neg c0]
 by_cases c1:x.kind=1;· rw [if_pos c1];exact h1 c1
 rw [if_neg c1]
 by_cases c2:x.kind=2;· rw [if_pos c2];exact h2 c2
 rw [if_neg c2]
 by_cases c3:x.kind=3;· rw [if_pos c3];exact h3 c3
 rw [if_neg c3]
 by_cases c4:x.kind=4;· rw [if_pos c4];exact h4 c4
 rw [if_neg c4]
 by_cases c5:x.kind=5;· rw [if_pos c5];exact h5 c5
 rw [if_neg c5]
 by_cases c6:x.kind=6;· rw [if_pos c6];exact h6 c6
 rw [if_neg c6]
 by_cases c7:x.kind=7;· rw [if_pos c7];exact h7 c7
 rw [if_neg c7]
 by_cases c8:x.kind=8;· rw [if_pos c8];exact h8 c8
 rw [if_neg c8]
 by_cases c9:x.kind=9;· rw [if_pos c9];exact h9 c9
 rw [if_neg c9]
 by_cases c10:x.kind=10;· rw [if_pos c10];exact h10 c10
 rw [if_neg c10]
 exact hz ⟨c0,c1,c2,c3,c4,c5,c6,c7,c8,c9,c10⟩
structure Quiet (M:Med):Prop where
 armed:M.armed=false
 off:M.off=false
 left:M.left=0
theorem Quiet.new (r:Nat):Quiet (new r):=⟨rfl,rfl,rfl⟩
theorem Quiet.step {M:Med} (h:Quiet M):M.step=(M,true):=by simp [Med.step,h.armed]
theorem Quiet.link {M:Med} (h:Quiet M) (x:Lnk):Quiet (M.link x):=⟨h.armed,h.off,h.left⟩
theorem Quiet.setFile {M:Med} (h:Quiet M) (i:Nat) (f:Fil):Quiet (M.setFile i f):=⟨h.armed,h.off,h.left⟩
theorem Quiet.crash (M:Med) (l:List Int):Quiet (M.crash l):=⟨rfl,rfl,rfl⟩
theorem Quiet.create {M:Med} (h:Quiet M) (s:ByteArray):Quiet (M.create s).1:=by
 unfold Med.create
 rw [h.step]
 split;· exact h
 split;· exact h
 split;· exact h
 split;· exact h
 split;· exact h
 exact ⟨h.armed,h.off,h.left⟩
theorem Quiet.append {M:Med} (h:Quiet M) (s:ByteArray) (b:Bs):Quiet (M.append s b).1:=by
 unfold Med.append
 rw [h.step]
 split;· exact h
 split;· exact h
 split;· exact h
 split;· exact h
 exact h.setFile _ _
theorem Quiet.rename {M:Med} (h:Quiet M) (s t:ByteArray):Quiet (M.rename s t).1:=by
 unfold Med.rename
 rw [h.step]
 split;· exact h
 split;· exact h
 split;· exact h
 split;· exact h
 exact h.link _
theorem Quiet.remove {M:Med} (h:Quiet M) (s:ByteArray):Quiet (M.remove s).1:=by
 unfold Med.remove
 rw [h.step]
 split;· exact h
 split;· exact h
 split;· exact h
 exact h.link _
theorem Quiet.sync {M:Med} (h:Quiet M) (s:ByteArray):Quiet (M.sync s).1:=by
 unfold Med.sync
 rw [h.step]
 split;· exact h
 split;· exact h
 split;· exact h
 exact h.setFile _ _
theorem Quiet.syncDir {M:Med} (h:Quiet M):Quiet M.syncDir.1:=by
 unfold Med.syncDir
 rw [h.step]
 split;· exact h
 split;· exact h
 exact ⟨h.armed,h.off,h.left⟩
def FFlat (f:Fil):Prop:=f.now=f.fast∧f.waits=[]
theorem FFlat.crash {f:Fil} (h:FFlat f) (a b:Int):f.crash a b=f:=by
 obtain ⟨fast,now,waits⟩:=f
 obtain ⟨h1,h2⟩:=h
 simp only at h1 h2
 subst h1;subst h2
 simp [Fil.crash,Fil.left,Fil.at]
structure Flat (M:Med):Prop where
 quiet:Quiet M
 fast:M.fast=M.now
 waits:M.waits=[]
 files:∀ p∈M.now,FFlat (M.file p.2)
theorem Quiet.sync_eq {M:Med} (h:Quiet M){s:ByteArray}{i:Nat} (hs:nget M.now s=some i):M.sync s=(M.setFile i (M.file i).sync,0):=by
 unfold Med.sync
 rw [h.step,h.off,hs]
 rfl
theorem file_set {M:Med}{i:Nat}{f:Fil} (hi:i<M.files.length) (j:Nat):(M.setFile i f).file j=if j=i then f else M.file j:=by
 unfold Med.setFile Med.file
 simp only [List.getD_eq_getElem?_getD]
 split
 ·rename_i h;subst h;rw [List.getElem?_set_self hi];rfl
 ·rename_i h;rw [List.getElem?_set_ne (Ne.symm h)]
theorem Quiet.syncDir_eq {M:Med} (h:Quiet M):M.syncDir=({ M with fast:=M.now,waits:=[] },0):=by
 unfold Med.syncDir
 rw [h.step,if_neg (by rw [h.off];exact Bool.false_ne_true)]
 simp
theorem Quiet.list {M:Med} (h:Quiet M):M.list=M.now.map (·.1):=by unfold Med.list;rw [h.off];rfl
def Dst (M:Med):Prop:=(M.now.map (·.2)).Nodup
theorem used_split {M:Med} (hs:Srt M.now) (hd:Dst M){s:ByteArray}{i:Nat} (h:nget M.now s=some i) :
  (∀ p∈ndel M.now s,p.2≠i)∧∀ g:Nat→Nat,(M.now.map fun p=>g p.2).sum=g i+((ndel M.now s).map fun p=>g p.2).sum:=by
 have hp:=ndel_perm hs.keys (nget_mem h)
 constructor
 ·have hd':(M.now.map fun p:ByteArray×Nat=>p.2).Nodup:=hd
  have:=(hp.map (fun p:ByteArray×Nat=>p.2)).nodup_iff.1 hd'
  simp only [List.map_cons,List.nodup_cons]at this
  intro p hp e
  exact this.1 (List.mem_map.2 ⟨p,hp,e⟩)
 ·intro g
  have:=(hp.map fun p=>g p.2).sum_nat
  simpa using this
theorem sum_congr {l:Names}{g h:Nat→Nat} (e:∀ p∈l,g p.2=h p.2):(l.map fun p=>g p.2).sum=(l.map fun p=>h p.2).sum:=by
 rw [List.map_congr_left e]
theorem used_set {M:Med}{K:Nat} (ok:M.Ok K) (hd:Dst M){s:ByteArray}{i:Nat} (h:nget M.now s=some i) (f:Fil) :
  (M.setFile i f).used+(M.file i).now.length=M.used+f.now.length:=by
 obtain ⟨h1,h2⟩:=used_split ok.nowOk.srt hd h
 have hi:i<M.files.length:=ok.nowOk.ids _ (nget_mem h)
 have e1:=h2 fun j=>(M.file j).now.length
 have e2:=h2 fun j=>((M.setFile i f).file j).now.length
 have e3:((ndel M.now s).map fun p=>((M.setFile i f).file p.2).now.length).sum=((ndel M.now s).map fun p=>(M.file p.2).now.length).sum:=
  sum_congr (g:=fun j=>((M.setFile i f).file j).now.length) (h:=fun j=>(M.file j).now.length) fun p hp=>by rw [file_set hi,if_neg (h1 p hp)]
 have e4:(M.setFile i f).file i=f:=by rw [file_set hi,if_pos rfl]
 simp only [e4,e3]at e2
 show (M.now.map fun p=>((M.setFile i f).file p.2).now.length).sum+_=(M.now.map fun p=>(M.file p.2).now.length).sum+_
 rw [e1,e2]
 omega
theorem sum_del_le (l:Names) (s:ByteArray) (g:Nat→Nat):((ndel l s).map fun p=>g p.2).sum≤(l.map fun p=>g p.2).sum:=by
 induction l with
 |nil=>exact Nat.le_refl _
 |cons p l ih=>
  unfold ndel at ih ⊢
  rw [List.filter_cons]
  split
  ·simp only [List.map_cons,List.sum_cons];omega
  ·simp only [List.map_cons,List.sum_cons];omega
theorem sum_put (l:Names) (s:ByteArray) (i:Nat) (g:Nat→Nat):((nput l s i).map fun p=>g p.2).sum=g i+((ndel l s).map fun p=>g p.2).sum:=by
 have:=((nput_perm l s i).map fun p=>g p.2).sum_nat
 simpa using this
theorem nodup_put {l:Names}{s:ByteArray}{i:Nat} (h:(l.map (·.2)).Nodup) (hi:∀ p∈l,p.2≠i):((nput l s i).map (·.2)).Nodup:=by
 refine ((nput_perm l s i).map (·.2)).nodup_iff.2 ?_
 simp only [List.map_cons,List.nodup_cons]
 refine ⟨fun hm=>?_,h.sublist (List.filter_sublist.map _)⟩
 obtain ⟨p,hp,e⟩:=List.mem_map.1 hm
 exact hi p (List.mem_filter.1 hp).1 e
structure Fits (M M':Med):Prop where
 room:M'.room=M.room
 dst:Dst M'
 used:M'.used≤M'.room
theorem step_alike (M:Med):M.step.1.room=M.room∧M.step.1.now=M.now∧M.step.1.files=M.files:=⟨M.step_same.1,M.step_same.2.2.1,M.step_same.2.2.2.1⟩
theorem Fits.self {M:Med} (hd:Dst M) (hu:M.used≤M.room):Fits M M:=⟨rfl,hd,hu⟩
theorem used_of {M M':Med} (h1:M'.now=M.now) (h2:M'.files=M.files):M'.used=M.used:=by unfold Med.used Med.file;rw [h1,h2]
theorem Fits.alike {M M':Med} (hd:Dst M) (hu:M.used≤M.room) (hr:M'.room=M.room) (h1:M'.now=M.now) (h2:M'.files=M.files):Fits M M':=
 ⟨hr,by unfold Dst;rw [h1];exact hd,by rw [used_of h1 h2,hr];exact hu⟩
theorem Fits.set {M M':Med}{K:Nat} (ok:M.Ok K) (hd:Dst M) (hu:M.used≤M.room) (hr:M'.room=M.room) (h1:M'.now=M.now) (h2:M'.files=M.files){s:ByteArray}{i:Nat} (h:nget M.now s=some i) (f:Fil)
  (hf:M.used+f.now.length≤M.room+(M.file i).now.length):Fits M (M'.setFile i f):=by
 have e:(M'.setFile i f).used=(M.setFile i f).used:=used_of (by exact h1) (by show M'.files.set i f=M.files.set i f;rw [h2])
 have:=used_set ok hd h f
 refine ⟨hr,by show (M'.now.map (·.2)).Nodup;rw [h1];exact hd,?_⟩
 rw [e]
 show _≤M'.room
 rw [hr]
 omega
theorem Fits.does {M:Med}{K:Nat} (ok:M.Ok K) (hd:Dst M) (hu:M.used≤M.room) (x:Cal) (h8:x.kind≠8) (h9:x.kind≠9) :
  Fits M (M.does x).1∧((M.does x).2.2.1=11→x.kind=1∧M.room<M.usedTold+x.b.length):=by
 have r:=Fits.self hd hu
 obtain ⟨s1,s2,s3⟩:=step_alike M
 have rs:Fits M M.step.1:=Fits.alike hd hu s1 s2 s3
 refine Med.does_ind (P:=fun q=>Fits M q.1∧(q.2.2.1=11→x.kind=1∧M.room<M.usedTold+x.b.length)) ?_ ?_ ?_ ?_ ?_ ?_ ?_ ?_ ?_ ?_ ?_ ?_
 ·intro _
  show Fits M (M.create x.name).1∧((M.create x.name).2=11→_)
  unfold Med.create
  split;· exact ⟨r,by simp⟩
  split;· exact ⟨r,by simp⟩
  rename_i hg
  split;· exact ⟨r,by simp⟩
  rename_i hn
  split;· exact ⟨r,by simp⟩
  split;· exact ⟨rs,by simp⟩
  refine ⟨?_,by simp⟩
  have hnn:nget M.now x.name=none:=by simpa using hn
  have hlt:=ok.nowOk.ids
  have hne:x.name≠ByteArray.empty:=good_ne (by simpa using hg)
  have enow:(({ M.step.1 with files:=M.files++[Fil.new] }:Med).link ⟨ByteArray.empty,x.name,M.files.length⟩).now=nput M.now x.name M.files.length:=by
   show Lnk.on _ M.step.1.now=_
   rw [s2]
   unfold Lnk.on
   simp only [if_true,if_neg hne]
  have hdel:=ndel_none hnn
  refine ⟨s1,?_,?_⟩
  ·unfold Dst
   rw [enow]
   exact nodup_put hd fun p hp e=>by have:=hlt p hp;omega
  ·have:(({ M.step.1 with files:=M.files++[Fil.new] }:Med).link ⟨ByteArray.empty,x.name,M.files.length⟩).used=M.used:=by
    show ((Med.now _).map fun p=>(Med.file _ p.2).now.length).sum=_
    rw [enow,sum_put _ _ _ (fun j=>(Med.file _ j).now.length),hdel]
    have e0:((({ M.step.1 with files:=M.files++[Fil.new] }:Med).link ⟨ByteArray.empty,x.name,M.files.length⟩).file M.files.length).now.length=0:=by
     simp [Med.file,Med.link,Fil.new]
    rw [e0,Nat.zero_add]
    refine sum_congr (g:=fun j=>(Med.file _ j).now.length) (h:=fun j=>(M.file j).now.length) fun p hp=>?_
    have:=hlt p hp
    simp only [Med.file,Med.link,List.getD_eq_getElem?_getD]
    rw [List.getElem?_append_left this]
   rw [this]
   show _≤M.step.1.room
   rw [s1];exact hu
 ·intro hk1
  show Fits M (M.append x.name x.b).1∧((M.append x.name x.b).2=11→_)
  unfold Med.append
  split;· exact ⟨r,by simp⟩
  rename_i hoff
  split;· exact ⟨r,by simp⟩
  rename_i i hi
  split
  ·rename_i hfull
   refine ⟨r,fun _=>⟨hk1,?_⟩⟩
   have:M.usedTold=M.used:=by unfold Med.usedTold;rw [if_neg hoff]
   rw [this];omega
  rename_i hfull
  split;· exact ⟨rs,by simp⟩
  refine ⟨Fits.set ok hd hu s1 s2 s3 hi _ ?_,by simp⟩
  simp only [Fil.do,Chg.on,Bool.false_eq_true,if_false,List.length_append]
  omega
 ·intro _
  show Fits M (M.truncate x.name x.n).1∧((M.truncate x.name x.n).2=11→_)
  unfold Med.truncate
  split;· exact ⟨r,by simp⟩
  split;· exact ⟨r,by simp⟩
  rename_i i hi
  split;· exact ⟨r,by simp⟩
  split;· exact ⟨rs,by simp⟩
  refine ⟨Fits.set ok hd hu s1 s2 s3 hi _ ?_,by simp⟩
  simp only [Fil.do,Chg.on,if_true,List.length_take]
  omega
 ·intro _
  show Fits M (M.rename x.name x.to).1∧((M.rename x.name x.to).2=11→_)
  unfold Med.rename
  split;· exact ⟨r,by simp⟩
  split;· exact ⟨r,by simp⟩
  rename_i i hi
  split;· exact ⟨r,by simp⟩
  rename_i hg
  split;· exact ⟨rs,by simp⟩
  refine ⟨?_,by simp⟩
  have hne:x.to≠ByteArray.empty:=good_ne (by simpa using hg)
  have hs:x.name≠ByteArray.empty:=ok.nowOk.ne _ (nget_mem hi)
  obtain ⟨h1,h2⟩:=used_split ok.nowOk.srt hd hi
  have enow:(M.step.1.link ⟨x.name,x.to,i⟩).now=nput (ndel M.now x.name) x.to i:=by
   show Lnk.on _ M.step.1.now=_
   rw [s2]
   unfold Lnk.on
   simp only [if_neg hs,if_neg hne]
  refine ⟨s1,?_,?_⟩
  ·unfold Dst
   rw [enow]
   exact nodup_put (hd.sublist (List.filter_sublist.map _)) h1
  ·have e1:=h2 fun j=>(M.file j).now.length
   have e2:=sum_del_le (ndel M.now x.name) x.to fun j=>(M.file j).now.length
   have:(M.step.1.link ⟨x.name,x.to,i⟩).used=((nput (ndel M.now x.name) x.to i).map fun p=>(M.file p.2).now.length).sum:=by
    show ((Med.now _).map fun p=>(Med.file _ p.2).now.length).sum=_
    rw [enow]
    unfold Med.file Med.link
    simp only [s3]
   rw [this,sum_put _ _ _ (fun j=>(M.file j).now.length)]
   show _≤M.step.1.room
   rw [s1]
   unfold Med.used at hu
   omega
 ·intro _
  show Fits M (M.remove x.name).1∧((M.remove x.name).2=11→_)
  unfold Med.remove
  split;· exact ⟨r,by simp⟩
  split;· exact ⟨r,by simp⟩
  rename_i i hi
  split;· exact ⟨rs,by simp⟩
  refine ⟨?_,by simp⟩
  have hs:x.name≠ByteArray.empty:=ok.nowOk.ne _ (nget_mem hi)
  have enow:(M.step.1.link ⟨x.name,ByteArray.empty,0⟩).now=ndel M.now x.name:=by
   show Lnk.on ⟨x.name,ByteArray.empty,0⟩ M.step.1.now=_
   rw [s2]
   unfold Lnk.on
   simp only [if_neg hs,if_true]
  refine ⟨s1,?_,?_⟩
  ·unfold Dst
   rw [enow]
   exact hd.sublist (List.filter_sublist.map _)
  ·have e2:=sum_del_le M.now x.name fun j=>(M.file j).now.length
   have:(M.step.1.link ⟨x.name,ByteArray.empty,0⟩).used=((ndel M.now x.name).map fun p=>(M.file p.2).now.length).sum:=by
    show ((Med.now _).map fun p=>(Med.file _ p.2).now.length).sum=_
    rw [enow]
    unfold Med.file Med.link
    simp only [s3]
   rw [this]
   show _≤M.step.1.room
   rw [s1]
   unfold Med.used at hu
   omega
 ·intro _
  show Fits M (M.sync x.name).1∧((M.sync x.name).2=11→_)
  unfold Med.sync
  split;· exact ⟨r,by simp⟩
  split;· exact ⟨r,by simp⟩
  rename_i i hi
  split;· exact ⟨rs,by simp⟩
  refine ⟨Fits.set ok hd hu s1 s2 s3 hi _ ?_,by simp⟩
  simp only [Fil.sync]
  omega
 ·intro _
  show Fits M M.syncDir.1∧(M.syncDir.2=11→_)
  unfold Med.syncDir
  split;· exact ⟨r,by simp⟩
  split;· exact ⟨rs,by simp⟩
  exact ⟨Fits.alike hd hu s1 s2 s3,by simp⟩
 ·intro _
  show Fits M (M.arm x.n).1∧((M.arm x.n).2=11→_)
  unfold Med.arm
  split;· exact ⟨r,by simp⟩
  split;· exact ⟨r,by simp⟩
  exact ⟨Fits.alike hd hu rfl rfl rfl,by simp⟩
 ·exact fun h=>absurd h h8
 ·exact fun h=>absurd h h9
 ·intro _
  refine ⟨?_,fun h=>by simp at h⟩
  show Fits M (M.rot x.name x.n (lowByte x.m)).1
  unfold Med.rot
  split;· exact r
  rename_i i hi
  split;· exact r
  refine Fits.set ok hd hu rfl rfl rfl hi _ ?_
  rw [((ok.file i).rot _ _).2,xorAt_len]
  omega
 ·intro _
  refine ⟨r,fun h=>?_⟩
  exfalso
  have h':(M.read x.name x.n x.m).2=11:=h
  unfold Med.read at h'
  revert h'
  split
  ·simp
  split
  ·simp
  simp only
  split
  ·simp
  split
  ·simp
  ·simp
def Med.rmove (m:Med) (s t:ByteArray) (gone:Bool):Med×Int:=
 if m.off then (m,12)
 else match nget m.now s with
 |none=>(m,9)
 |some i=>
  if gone=false∧good t=false then (m,7)
  else if m.step.2=false then (m.step.1,12)
  else (m.step.1.link ⟨s,if gone then ByteArray.empty else t,i⟩,0)
def Med.rfile (D:Med) (l:List Int) (i:Nat) (p:ByteArray×Nat):Fil:=(D.file p.2).crash (num l (2 * i+1)) (num l (2 * i+2))
def Med.rcrash (D:Med) (l:List Int):Med:=
 let ns:=D.lastNames (clampN (num l 0) D.waits.length)
 { D with fast:=ns.mapIdx fun i p=>(p.1,i),now:=ns.mapIdx fun i p=>(p.1,i),waits:=[],files:=ns.mapIdx (D.rfile l),off:=false,armed:=false,left:=0 }
def Med.told (D:Med) (x:Cal):Med×(Bs×Int×Bool):=
 if x.kind=0 then ((D.create x.name).1,[],(D.create x.name).2,false)
 else if x.kind=1 then ((D.append x.name x.b).1,[],(D.append x.name x.b).2,false)
 else if x.kind=2 then ((D.truncate x.name x.n).1,[],(D.truncate x.name x.n).2,false)
 else if x.kind=3 then ((D.rmove x.name x.to false).1,[],(D.rmove x.name x.to false).2,false)
 else if x.kind=4 then ((D.rmove x.name ByteArray.empty true).1,[],(D.rmove x.name ByteArray.empty true).2,false)
 else if x.kind=5 then ((D.sync x.name).1,[],(D.sync x.name).2,false)
 else if x.kind=6 then (D.syncDir.1,[],D.syncDir.2,false)
 else if x.kind=7 then ((D.arm x.n).1,[],(D.arm x.n).2,false)
 else if x.kind=8 then (D.rcrash x.l,[],0,false)
 else if x.kind=9 then ((D.setRoom x.n).1,[],(D.setRoom x.n).2,false)
 else if x.kind=10 then ((D.rot x.name x.n (lowByte x.m)).1,[],0,(D.rot x.name x.n (lowByte x.m)).2)
 else (D,(D.read x.name x.n x.m).1,(D.read x.name x.n x.m).2,false)
def ren (φ:Nat→Nat) (l:Names):Names:=l.map fun p=>(p.1,φ p.2)
structure Side (φ:Nat→Nat) (L:Nat→Prop) (M D:Med):Prop where
 room:D.room=M.room
 armed:D.armed=M.armed
 left:D.left=M.left
 off:D.off=M.off
 wl:D.waits.length=M.waits.length
 now:D.now=ren φ M.now
 names:∀ k,k≤M.waits.length→D.lastNames k=ren φ (M.lastNames k)
 live:∀ k,k≤M.waits.length→∀ p∈M.lastNames k,L p.2
 once:∀ k,k≤M.waits.length→((M.lastNames k).map (·.2)).Nodup
 inj:∀ i j,L i→L j→φ i=φ j→i=j
 file:∀ i,L i→D.file (φ i)=M.file i
 lt:∀ i,L i→φ i<D.files.length
 ml:∀ i,L i→i<M.files.length
section
variable {φ:Nat→Nat}{L:Nat→Prop}{M D:Med}{K:Nat}
end
section
variable {φ:Nat→Nat}{L:Nat→Prop}{M D:Med}{K:Nat}
def Both (r q:Med×Int):Prop:=r.2=q.2∧∃ φ L,Side φ L r.1 q.1
end
def Fil.Small (f:Fil):Prop:=∀ c∈f.waits,c.b.length≤16777216
def Med.Small (m:Med):Prop:=∀ f∈m.files,f.Small
end Go.Med
namespace Go.Frm
theorem num_snoc (l:Bs) (c:UInt8):num (l++[c])=num l+c.toNat * 256^l.length:=by
 induction l with
 |nil=>show c.toNat+256 * 0=0+c.toNat * 1;omega
 |cons d l ih=>
  show d.toNat+256 * num (l++[c])=d.toNat+256 * num l+c.toNat * 256^(l.length+1)
  rw [ih,Nat.pow_succ,Nat.mul_add,← Nat.mul_assoc,Nat.mul_comm 256 (c.toNat),Nat.mul_assoc,Nat.mul_comm 256 (256^l.length),← Nat.add_assoc]
end Go.Frm
namespace Go.Proofs.YtlinnpehkfbnkaaGreatDoor
open Go Go.Sl Go.Med Go.MapKept Go.RowKit
section
variable {w0 w:World}{F R:List HProp}{v bv dv x lv:Value}
theorem or_num (l:Bs) (c:UInt8) (k:Nat) (hl:l.length=k) (hk:k<7):bits .or .u64 ((Frm.num l:Nat):Int) ((c.toNat:Int) * ((256^k:Nat):Int))=((Frm.num (l++[c]):Nat):Int):=by
 subst hl
 have h1:=Frm.num_lt l
 have h2:=c.toNat_lt
 have h3:256^l.length≤256^6:=Nat.pow_le_pow_right dCz oQ
 have h4:c.toNat * 256^l.length≤255 * 256^6:=Nat.mul_le_mul oQ h3
 have h5:(256:Nat)^6=281474976710656:=by decide
 have e:(c.toNat:Int) * ((256^l.length:Nat):Int)=((c.toNat * 256^l.length:Nat):Int):=by rw [Int.natCast_mul]
 rw [e,u64_or_nat _ _ oQ oQ,Frm.num_snoc]
 congr 1
 have hp:(256:Nat)^l.length=2^(8 * l.length):=by rw [Nat.pow_mul]
 rw [hp]at h1 ⊢
 have:=Nat.two_pow_add_eq_or_of_lt h1 c.toNat
 rw [Nat.or_comm,Nat.mul_comm c.toNat,← this,Nat.add_comm]
theorem rdsl_cut4 {k:Nat}{l:Bs}{a:Option Addr}{n c:Nat} (h:rdsl 1 (.slice a n c) (bys l) w):rdsl 1 (.slice a (min n k) c) (bys (l.take k)) w:=by
 obtain ⟨a',n',c',he,hl,hx⟩:=h
 cases he
 rw [bys_len,Nat.mul_one]at hl
 refine ⟨a,_,c,rfl,by rw [bys_len,List.length_take];omega,fun j y hj=>?_⟩
 have hj':(bys l)[j]?=some y:=by
  unfold bys at hj ⊢
  rw [List.map_take,List.getElem?_take]at hj
  split at hj
  ·exact hj
  ·cases hj
 exact hx j y hj'
set_option maxRecDepth 20000 in
theorem get4_c (c0 c1 c2 c3:UInt8) (a:Option Addr) (c:Nat) (h:rdsl 1 (.slice a 4 c) (bys [c0,c1,c2,c3]) w) :
  Calls Tryz.prog 200 #[.slice a 4 c] w (Rtn fun v w'=>v = .tuple #[.int .u64 (Frm.num [c0,c1,c2,c3]:Nat),.bool true]∧w=w'):=by
 obtain ⟨bk,off,rfl,hc⟩:=rdsl_cells h (i:=0) rfl
 have e0:w.cell? ⟨bk,off,none⟩=some (.int .u8 c0.toNat):=hc 0 _ rfl
 have e1:w.cell? ⟨bk,off+1,none⟩=some (.int .u8 c1.toNat):=hc 1 _ rfl
 have e2:w.cell? ⟨bk,off+2,none⟩=some (.int .u8 c2.toNat):=hc 2 _ rfl
 have e3:w.cell? ⟨bk,off+3,none⟩=some (.int .u8 c3.toNat):=hc 3 _ rfl
 have b0:=c0.toNat_lt;have b1:=c1.toNat_lt;have b2:=c2.toNat_lt;have b3:=c3.toNat_lt
 clear hc h
 go_enter Tryz.func200,Tryz.ntmps200
 go_wp2_with fail
 go_loopg [17,4] 4 (fun g iq xq wr=>∃ i:Nat,g=4 - i∧i≤4∧iq = .int .i64 i∧xq = .int .u64 (Frm.num ([c0,c1,c2,c3].take i):Nat)∧wr=w)
 case atStart=>exact ⟨0,rfl,by omega,rfl,rfl,rfl⟩
 case round=>
  obtain ⟨i,rfl,hi,rfl,rfl,rfl⟩:=hrel
  by_cases h4:i<4
  ·have h0:i=0∨i=1∨i=2∨i=3:=by omega
   clear hi h4
   rcases h0 with rfl|rfl|rfl|rfl
   ·have hq:bits .or .u64 ((Frm.num []:Nat):Int) (c0.toNat:Int)=((Frm.num [c0]:Nat):Int):=by
     have:=or_num [] c0 0 rfl dCz
     simpa using this
    go_wp2_with fail
    go_roundg (4 - 1)
    case measure=>decide
    case rel=>exact ⟨1,rfl,by decide,by first|rfl|go_num,rfl,rfl⟩
   ·have hq:bits .or .u64 ((Frm.num [c0]:Nat):Int) ((c1.toNat:Int) * 256)=((Frm.num [c0,c1]:Nat):Int):=or_num [c0] c1 1 rfl dCz
    go_wp2_with fail
    go_roundg (4 - 2)
    case measure=>decide
    case rel=>exact ⟨2,rfl,by decide,by first|rfl|go_num,rfl,rfl⟩
   ·have hq:bits .or .u64 ((Frm.num [c0,c1]:Nat):Int) ((c2.toNat:Int) * 65536)=((Frm.num [c0,c1,c2]:Nat):Int):=or_num [c0,c1] c2 2 rfl dCz
    go_wp2_with fail
    go_roundg (4 - 3)
    case measure=>decide
    case rel=>exact ⟨3,rfl,by decide,by first|rfl|go_num,rfl,rfl⟩
   ·have hq:bits .or .u64 ((Frm.num [c0,c1,c2]:Nat):Int) ((c3.toNat:Int) * 16777216)=((Frm.num [c0,c1,c2,c3]:Nat):Int):=or_num [c0,c1,c2] c3 3 rfl dCz
    go_wp2_with fail
    go_roundg (4 - 4)
    case measure=>decide
    case rel=>exact ⟨4,rfl,by decide,by first|rfl|go_num,rfl,rfl⟩
  ·obtain rfl:i=4:=by omega
   go_wp2
   go_ret2
   exact ⟨_,rfl,rfl,rfl⟩
theorem four {l:Bs} (h:l.length=4):∃ c0 c1 c2 c3,l=[c0,c1,c2,c3]:=by
 match l,h with
 |[c0,c1,c2,c3],_=>exact ⟨c0,c1,c2,c3,rfl⟩
theorem get4_l (l:Bs) (hl:l.length=4) (a:Option Addr) (c:Nat) (h:rdsl 1 (.slice a 4 c) (bys l) w) :
  Calls Tryz.prog 200 #[.slice a 4 c] w (Rtn fun v w'=>v = .tuple #[.int .u64 (Frm.num l:Nat),.bool true]∧w=w'):=by
 obtain ⟨c0,c1,c2,c3,rfl⟩:=four hl
 exact get4_c c0 c1 c2 c3 a c h
theorem number_c (l:Bs) (hl:4≤l.length) (a:Option Addr) (n c:Nat) (hn:n≤c) (hc:c≤9223372036854775807) (h:rdsl 1 (.slice a n c) (bys l) w) :
  Calls Tryz.prog 171 #[.slice a n c] w (Rtn fun v w'=>v = .int .u32 (Frm.num (l.take 4):Nat)∧w=w'):=by
 have hln:n=l.length:=by
  obtain ⟨_,_,_,he,hl',_⟩:=h
  cases he
  rw [bys_len,Nat.mul_one]at hl';exact hl'.symm
 have h4:=rdsl_cut4 (k:=4) h
 rw [show min n 4=4 by omega]at h4
 have hg:=get4_l (l.take 4) (by rw [List.length_take];omega) a c h4
 have hlt:=Frm.num_lt (l.take 4)
 rw [List.length_take,Nat.min_eq_left hl]at hlt
 have hb:(Frm.num (l.take 4):Int)<4294967296:=oQ
 have hc4:(4:Int)≤(c:Int):=oQ
 generalize Frm.num (l.take 4)=N at *
 clear hlt hln h4 h hl
 have hw:IntKind.u32.wrap (N:Int)=(N:Int):=by rw [IntKind.wrap_u32];omega
 go_enter Tryz.func171,Tryz.ntmps171
 go_wp2_with (go_at_call 200;refine hg.mono ?_;rintro e w1 ⟨v,rfl,rfl,rfl⟩)
 go_ret
 exact ⟨_,rfl,rfl,rfl⟩
theorem fits_c (t:UInt8) (n:Nat) (hn:n<4294967296) (w:World) :
  Calls Tryz.prog 172 #[.int .u8 t.toNat,.int .i64 n] w (Rtn fun v w'=>v = .bool (Frm.fits t n)∧w=w'):=by
 have htl:=t.toNat_lt
 by_cases h0:t=0
 ·subst h0
  by_cases h1:41≤n
  ·by_cases h2:n≤16425
   ·have Hf:=uQ (show Frm.fits 0 n=true by unfold Frm.fits;rw [if_pos rfl];exact decide_eq_true ⟨h1,h2⟩)
    have c1:(41:Int)≤(n:Int):=oQ
    have c2:(n:Int)≤16425:=oQ
    clear h1 h2
    go_enter Tryz.func172,Tryz.ntmps172
    go_wp2
    go_ret
    rw [Hf.out]
    exact ⟨_,rfl,rfl,rfl⟩
   ·have Hf:=uQ (show Frm.fits 0 n=false by unfold Frm.fits;rw [if_pos rfl];exact decide_eq_false oQ)
    have c1:(41:Int)≤(n:Int):=oQ
    have c2:decide ((n:Int)≤16425)=false:=decide_eq_false oQ
    clear h1 h2
    go_enter Tryz.func172,Tryz.ntmps172
    go_wp2
    go_ret
    rw [Hf.out]
    exact ⟨_,rfl,rfl,rfl⟩
  ·have Hf:=uQ (show Frm.fits 0 n=false by unfold Frm.fits;rw [if_pos rfl];exact decide_eq_false oQ)
   have c1:decide ((41:Int)≤(n:Int))=false:=decide_eq_false oQ
   clear h1
   go_enter Tryz.func172,Tryz.ntmps172
   go_wp2
   go_ret
   rw [Hf.out]
   exact ⟨_,rfl,rfl,rfl⟩
 by_cases h1:t=1
 ·subst h1
  have Hf:=uQ (show Frm.fits 1 n=decide (n=41) by unfold Frm.fits;rw [if_neg dCz,if_pos rfl])
  have He:=uQ (show ((n:Int)==41)=decide (n=41) by rw [Bool.eq_iff_iff,beq_iff_eq,decide_eq_true_eq];omega)
  go_enter Tryz.func172,Tryz.ntmps172
  go_wp2
  go_ret
  rw [Hf.out,← He.out]
  exact ⟨_,rfl,rfl,rfl⟩
 by_cases h2:t=2
 ·subst h2
  have Hf:=uQ (show Frm.fits 2 n=decide (n=9) by unfold Frm.fits;rw [if_neg dCz,if_neg dCz,if_pos rfl])
  have He:=uQ (show ((n:Int)==9)=decide (n=9) by rw [Bool.eq_iff_iff,beq_iff_eq,decide_eq_true_eq];omega)
  go_enter Tryz.func172,Tryz.ntmps172
  go_wp2
  go_ret
  rw [Hf.out,← He.out]
  exact ⟨_,rfl,rfl,rfl⟩
 ·have Hf:=uQ (show Frm.fits t n=false by unfold Frm.fits;rw [if_neg h0,if_neg h1,if_neg h2])
  have g0:((t.toNat:Int)==0)=false:=by rw [beq_eq_false_iff_ne];intro h;exact h0 (UInt8.toNat_inj.1 (by rw [show (0:UInt8).toNat=0 from rfl];omega))
  have g1:((t.toNat:Int)==1)=false:=by rw [beq_eq_false_iff_ne];intro h;exact h1 (UInt8.toNat_inj.1 (by rw [show (1:UInt8).toNat=1 from rfl];omega))
  have g2:((t.toNat:Int)==2)=false:=by rw [beq_eq_false_iff_ne];intro h;exact h2 (UInt8.toNat_inj.1 (by rw [show (2:UInt8).toNat=2 from rfl];omega))
  clear h0 h1 h2
  generalize t.toNat=T at *
  go_enter Tryz.func172,Tryz.ntmps172
  go_wp2
  go_ret
  rw [Hf.out]
  exact ⟨_,rfl,rfl,rfl⟩
end
end Go.Proofs.YtlinnpehkfbnkaaGreatDoor
namespace Go.Frm
def cutE (long:Nat) (x:Ent):Ent:=⟨x.tag,x.key,x.data.take long⟩
def few (l:List Ent) (n long:Nat):List Ent:=(l.take n).map (cutE long)
end Go.Frm
namespace Go.Proofs.YtlinnpehkfbnkaaGreatDoor
open Go Go.Sl Go.Med Go.MapKept Go.RowKit
section
variable {w0 w:World}{F R:List HProp}{v bv dv x lv:Value}
theorem rdsl_cut {k:Nat}{l:Bs}{a:Option Addr}{n c:Nat} (h:rdsl 1 (.slice a n c) (bys l) w):rdsl 1 (.slice a (min n k) c) (bys (l.take k)) w:=by
 obtain ⟨a',n',c',he,hl,hx⟩:=h
 cases he
 rw [bys_len,Nat.mul_one]at hl
 refine ⟨a,_,c,rfl,by rw [bys_len,List.length_take];omega,fun j y hj=>?_⟩
 have hj':(bys l)[j]?=some y:=by
  unfold bys at hj ⊢
  rw [List.map_take,List.getElem?_take]at hj
  split at hj
  ·exact hj
  ·cases hj
 exact hx j y hj'
theorem dataS_snoc (es:List (Frm.Ent×Value)) (x:Frm.Ent) (dv:Value):dataS (es++[(x,dv)])=star (bsl dv x.data) (dataS es):=by
 unfold dataS
 rw [List.map_append,stars_append,star_comm]
 show star (stars [bsl dv x.data]) _=_
 rw [stars_one]
theorem entA_one (e:Frm.Ent) (a:Option Addr) (n c:Nat):(entA e (.slice a n c)).toList.all (·.oneCell')=true:=by
 unfold entA entL
 rw [List.toList_toArray,List.all_cons,List.all_append]
 have:(bys e.key).all (·.oneCell')=true:=List.all_eq_true.2 (bys_one _)
 rw [this];rfl
structure EntRo (w0:World) (F:List HProp) (p:Frm.Ent×Value):Prop where
 key:p.1.key.length=32
 rd:Ro w0 F (rdsl 1 p.2 (bys p.1.data))
 cap:capOk p.2
theorem few_keys {es fs:List (Frm.Ent×Value)}{i long:Nat} (h:fs.map (·.1)=((es.map (·.1)).take i).map (Frm.cutE long)) (hk:∀ p∈es,p.1.key.length=32):∀ p∈fs,p.1.key.length=32:=by
 intro p hp
 have h1:p.1∈fs.map (·.1):=List.mem_map.2 ⟨p,hp,rfl⟩
 rw [h,List.mem_map]at h1
 obtain ⟨x,hx,he⟩:=h1
 obtain ⟨q,hq,rfl⟩:=List.mem_map.1 (List.mem_of_mem_take hx)
 rw [← he]
 exact hk q hq
set_option maxRecDepth 20000 in
theorem few_c (es:List (Frm.Ent×Value)) (n long:Nat) (hlong:long≤1099511627776) (hn:n≤1048576) (hr:Ro w0 F (rdsl 34 lv (entsL es))) (he:∀ p∈es,EntRo w0 F p) (h:Sat w0 w F) :
  Calls Tryz.prog 10 #[lv,.int .i64 n,.int .i64 long] w (Rtn fun v w'=>∃ fs:List (Frm.Ent×Value),fs.map (·.1)=Frm.few (es.map (·.1)) n long∧Sat w0 w' (osl 27 34 v (entsL fs)::dataS fs::F)):=by
 obtain ⟨la,ln,lc,rfl,hl,_⟩:=hr w h
 rw [entsL_len (fun p hp=>(he p hp).key)]at hl
 obtain rfl:ln=es.length:=by omega
 have Hr:=uQ hr;have He:=uQ he;have Hlong:=uQ hlong;have Hn:=uQ hn
 clear hr he hl hn
 go_enter Tryz.func10,Tryz.ntmps10
 go_wp2_with fail
 go_loopg [8,7] es.length (fun g iq ov wr=>∃ (i:Nat) (fs:List (Frm.Ent×Value)),g=es.length - i∧i≤es.length∧i≤n∧iq = .int .i64 i∧fs.map (·.1)=((es.map (·.1)).take i).map (Frm.cutE long) ∧
  Sat w0 wr (osl 27 34 ov (entsL fs)::dataS fs::F))
 case atStart=>exact ⟨0,[],rfl,Nat.zero_le _,Nat.zero_le _,rfl,rfl,Sat.osl_nil.2 (Sat.emp.2 h)⟩
 case round=>
  obtain ⟨i,fs,rfl,hi,hin,rfl,hfs,hS⟩:=hrel
  have Hfs:=uQ hfs;have Hi:=uQ hi;have Hin:=uQ hin
  clear h hfs hi hin
  by_cases hlt:i<es.length∧i<n
  ·obtain ⟨hl1,hl2⟩:=hlt
   have c1:(i:Int)<(es.length:Int):=oQ
   have c2:(i:Int)<(n:Int):=oQ
   have hwi:IntKind.i64.wrap ((i:Int)+1)=(i:Int)+1:=IntWalk.i64_in _ (by have:=Hn.out;omega)
   have Hl1:=uQ hl1;have Hl2:=uQ hl2
   have Hfk:=uQ (few_keys Hfs.out (fun p hp=>(He.out p hp).key))
   clear hl1 hl2
   obtain ⟨x,hx⟩:∃ x,es[i]?=some x:=⟨_,List.getElem?_eq_getElem Hl1.out⟩
   have hxe:=He.out x (List.mem_of_getElem? hx)
   have hk:∀ p∈es,p.1.key.length=32:=fun p hp=>(He.out p hp).key
   have hcut:=uQ (show fs.map (·.1)++[Frm.cutE long x.1]=((es.map (·.1)).take (i+1)).map (Frm.cutE long) by
    rw [Hfs.out,List.take_add_one,List.map_append,List.getElem?_map,hx];rfl)
   have hrF:Ro w0 (osl 27 34 u7 (entsL fs)::dataS fs::F) (rdsl 34 (.slice la es.length lc) (entsL es)):=Ro.os Hr.out
   obtain ⟨bk,off,rfl,_⟩:=rdsl_cells (hrF _ hS) (entsL_at hk hx (entL_at0 _ _))
   have HG:=uQ (show ∀ w' L,Ro w0 L (rdsl 34 (.slice (some ⟨bk,off,none⟩) es.length lc) (entsL es))→Sat w0 w' L→w'.cell? ⟨bk,off+i * 34,none⟩=some (.int .i64 x.1.tag)∧w'.rangeAt bk (off+i * 34+1) (bys x.1.key)∧w'.cell? ⟨bk,off+i * 34+33,none⟩=some x.2 by
    intro w' L hL hw
    obtain ⟨bk',off',hbo,hcell⟩:=rdsl_cells (hL w' hw) (entsL_at hk hx (entL_at0 _ _))
    cases hbo
    refine ⟨hcell _ _ (entsL_at hk hx (entL_at0 _ _)),fun j y hj=>?_,?_⟩
    ·have:=hcell _ _ (entsL_at hk hx (entL_key _ x.2 hj))
     rw [show off+(i * 34+(1+j))=off+i * 34+1+j by omega]at this
     exact this
    ·have:=hcell _ _ (entsL_at hk hx (entL_at33 _ _ hxe.key))
     rw [show off+(i * 34+33)=off+i * 34+33 by omega]at this
     exact this)
   obtain ⟨⟨tag,key,data⟩,dv⟩:=x
   obtain ⟨da,dn,dc,rfl,hdn,hdc⟩:=hxe.cap
   have hdl:dn=data.length:=by
    obtain ⟨a',n',c',he,hl,_⟩:=hxe.rd _ (hS.sb)
    cases he
    rw [bys_len,Nat.mul_one]at hl;exact hl.symm
   have Hrd:=uQ hxe.rd;have Hkey:=uQ (show key.length=32 from hxe.key)
   have hks:(bys key).length=32:=by rw [bys_len];exact Hkey.out
   have Hks:=uQ hks
   have hcap:capOk (.slice da dn dc):=hxe.cap
   clear hx hxe hk hrF hks hcap
   go_wp2_with fail
   refine wpL_begin [19,20,21,22] (fun w'=>w'.cell? ⟨bk,off+i * 34,none⟩=some (.int .i64 tag)∧w'.rangeAt bk (off+i * 34+1) (bys key)∧w'.cell? ⟨bk,off+i * 34+33,none⟩=some (.slice da dn dc)) kRz ?_
   have hG:=HG.out _ _ (Ro.os Hr.out) hS.drew
   refine rP 0 ?_ (y:=mvQ)
   refine rP 1 ?_ (y:=mvQ)
   refine rP 2 ?_ (y:=mvQ)
   refine rP 3 ?_ (y:=ixQ)
   refine rP 4 ?_ (y:=flQ)
   refine rt 5 (h:=?_)
   refine rP 6 ?_ (y:=mvQ)
   refine rP 7 ?_ (y:=mvQ)
   refine rP 8 ?_ (y:=ixQ)
   refine rP 9 ?_ (y:=flQ)
   refine rg_take 10 evD kRz i3z (tk_loadN (b:=bk) (o:=off+i * 34+1) (bys key) rFz Tryz.underlying24 rfl (by rw [Hks.out];kernel_rfl) (fun w hw=>hw.2.1)) aQ gQ ?_
   refine rP 11 ?_ (y:=mvQ)
   refine rP 12 ?_ (y:=mvQ)
   refine rP 13 ?_ (y:=ixQ)
   refine rP 14 ?_ (y:=flQ)
   refine rt 15 (h:=?_)
   refine rP 16 ?_ (y:=mvQ)
   clear hG
   refine rg_eff 17 evD kRz (fun K hK=>?_)
   (refine eff_call2 kRz evD evD ?_)
   refine (cut_c da dn dc long hdn hdc _).mono ?_
   rintro e w3 ⟨v,rfl,rfl,rfl⟩
   refine hK _ _ (.inr (.inr rfl)) ?_
   clear hK K
   refine rg_eff 18 evD kRz (fun K hK=>?_)
   (refine eff_call1 kRz evD ?_)
   refine (copy_c hS.drew (data.take long) (rdsl_cut ((Ro.os Hrd.out) _ hS.drew)) (by rw [List.length_take];have:=Hlong.out;omega)).mono ?_
   rintro e w4 ⟨v,rfl,hS4,ca,cn,cc,rfl⟩
   refine hK _ _ (.inr (.inl (HG.out _ _ (Ro.os Hr.out) hS4))) ?_
   clear hK K
   refine rP 19 ?_ (y:=(yl_build3 evD evD evD (fun w=>run_buildEnt ⟨tag,key,data.take long⟩ Hkey.out ca cn cc w)))
   refine rg_eff 20 evD kRz (fun K hK=>?_)
   refine eff_build1 (e:=27) (sz:=34) (by':=64) kRz hS4 evD (cs:=entA ⟨tag,key,data.take long⟩ (.slice ca cn cc)) rfl (entA_size _ _ Hkey.out) nLz ?_
   intro bN w5 hN
   refine hK _ _ (.inl rfl) ?_
   clear hK K hS4
   have hlen:(entsL fs).length≤2147483648:=by
    rw [entsL_len Hfk.out]
    have:=congrArg List.length Hfs.out
    simp only [List.length_map,List.length_take]at this
    have:=Hn.out;have:=Hin.out;omega
   refine rg_eff 21 evD kRz (fun K hK=>?_)
   refine eff_app 27 34 64 kRz hN rFz rFz pkD pkD ((entA_size _ _ Hkey.out).trans dCz) (Nat.le_refl 1) (entA_one _ _ _ _) hlen (by rw [entA_size _ _ Hkey.out];decide) dCz rfl ?_
   intro bA nA cA w6 hA
   refine hK _ _ (.inl rfl) ?_
   clear hK K hN hlen
   refine rP 22 ?_ (y:=asQ)
   refine wpL_done kRz ?_
   go_wp2_with fail
   go_roundg (es.length - (i+1))
   case measure=>have:=Hl1.out;omega
   case rel=>
    refine ⟨i+1,fs++[(⟨tag,key,data.take long⟩,.slice ca cn cc)],rfl,Nat.succ_le_of_lt Hl1.out,Nat.succ_le_of_lt Hl2.out,by first|rfl|go_num,?_,?_⟩
    ·rw [← hcut.out,List.map_append];rfl
    ·rw [entsL_app,dataS_snoc]
     have h9:Sat w0 w6 (osl 27 34 (.slice (some ⟨bA,0,none⟩) nA cA) (entsL fs++entsL [(⟨tag,key,data.take long⟩,.slice ca cn cc)])::bsl (.slice ca cn cc) (data.take long)::dataS fs::F):=by
      have e:entsL [((⟨tag,key,data.take long⟩:Frm.Ent),Value.slice ca cn cc)]=(entA ⟨tag,key,data.take long⟩ (.slice ca cn cc)).toList:=by
       unfold entsL entA;simp
      rw [e]
      exact Sat.sb hA
     have h10:Sat w0 w6 (bsl (.slice ca cn cc) (data.take long)::dataS fs::osl 27 34 (.slice (some ⟨bA,0,none⟩) nA cA) (entsL fs++entsL [(⟨tag,key,data.take long⟩,.slice ca cn cc)])::F):=h9.sb
     exact (Sat.star.2 h10).pick1
  ·have hfin:fs.map (·.1)=Frm.few (es.map (·.1)) n long:=by
    rw [Hfs.out]
    unfold Frm.few
    congr 1
    have:=Hi.out;have:=Hin.out
    by_cases hh:i=n
    ·rw [hh]
    ·rw [List.take_of_length_le (by rw [List.length_map];omega),List.take_of_length_le (by rw [List.length_map];omega)]
   by_cases hl1:i<es.length
   ·have c1:(i:Int)<(es.length:Int):=by omega
    have c2:¬ (i:Int)<(n:Int):=oQ
    have Hfin:=uQ hfin
    clear hfin hlt hl1
    go_wp2
    go_ret
    exact ⟨_,rfl,fs,Hfin.out,hS⟩
   ·have c1:¬ (i:Int)<(es.length:Int):=by omega
    have Hfin:=uQ hfin
    clear hfin hlt hl1
    go_wp2
    go_ret
    exact ⟨_,rfl,fs,Hfin.out,hS⟩
end
end Go.Proofs.YtlinnpehkfbnkaaGreatDoor
namespace Go.Seg
def Log.next (L:Log):Int:=match L.l.getLast? with
 |none=>0
 |some s=>s.1+1
end Go.Seg
namespace Go.Proofs.YtlinnpehkfbnkaaGreatDoor
open Go Go.Sl Go.Med Go.MapKept Go.RowKit
section
variable {w0 w:World}{F:List HProp}{v bv dv x lv:Value}{q p m K:Nat}{L:Seg.Log}{M:Med}
theorem segw_at (l:List (Int×Int)) (i:Nat) (s:Int×Int) (h:l[i]?=some s):(segw l)[2 * i]?=some (.int .i64 s.1)∧(segw l)[2 * i+1]?=some (.int .i64 s.2):=by
 induction l generalizing i with
 |nil=>simp at h
 |cons a l ih=>
  cases i with
  |zero=>
   obtain rfl:a=s:=by simpa using h
   exact ⟨rfl,rfl⟩
  |succ i=>
   have e1:segw (a::l) = .int .i64 a.1 :: .int .i64 a.2::segw l:=rfl
   have h':l[i]?=some s:=by simpa using h
   rw [e1,show 2 * (i+1)=2 * i+1+1 by omega]
   exact ih i h'
theorem last_cells {s:Int×Int} (hl:L.l.getLast?=some s) (h:Sat w0 w (logPt p m L lv::osl 135 2 lv (segw L.l)::F)) :
  ∃ bk n c,lv = .slice (some ⟨bk,0,none⟩) (n+1) c∧L.l.length=n+1∧w.cell? ⟨bk,2 * n,none⟩=some (.int .i64 s.1)∧w.cell? ⟨bk,2 * n+1,none⟩=some (.int .i64 s.2):=by
 rw [List.getLast?_eq_getElem?]at hl
 have hlt:=(List.getElem?_eq_some_iff.1 hl).1
 obtain ⟨n,hn⟩:∃ n,L.l.length=n+1:=⟨L.l.length - 1,by omega⟩
 rw [hn,Nat.add_sub_cancel]at hl
 obtain ⟨h1,h2⟩:=segw_at _ _ _ hl
 have hS:Sat w0 w (osl 135 2 lv (segw L.l)::logPt p m L lv::F):=h.pick1
 rcases hS.osl_cases with ⟨rfl,hx,_⟩|⟨b,n',cap,cs,rfl,hll,hn',hc,hcm,htk,hp⟩
 ·rw [hx]at h1;simp at h1
 ·rw [segw_len,hn]at hll
  obtain rfl:n'=n+1:=by omega
  exact ⟨b,n,cap,rfl,hn,hp.cellAt _ _ (take_get htk h1),hp.cellAt _ _ (take_get htk h2)⟩
theorem snext_c (hlen:L.l.length≤1048576) (hb:∀ s∈L.l,0≤s.1∧s.1<1048576) (h:Sat w0 w (logPt p m L lv::osl 135 2 lv (segw L.l)::F)) :
  Calls Tryz.prog 152 #[ptr p] w (Rtn fun v w'=>v = .int .i64 L.next∧Sat w0 w' (logPt p m L lv::osl 135 2 lv (segw L.l)::F)):=by
 cases hl:L.l.getLast? with
 |none=>
  have hnil:=List.getLast?_eq_none_iff.1 hl
  refine (next0_c hnil h).mono ?_
  rintro e w1 ⟨v,rfl,rfl,rfl⟩
  exact ⟨_,rfl,by unfold Seg.Log.next;rw [hl],h⟩
 |some s=>
  have Hfin:=uQ (show L.next=s.1+1 by unfold Seg.Log.next;rw [hl])
  have hs:=hb s (List.mem_of_getLast? hl)
  obtain ⟨bk,n,c,rfl,hn,c1,c2'⟩:=last_cells hl h
  have hok:=ok_c h
  have c2:=h.cellAt 2 _ rfl
  have hS:=h.drew
  have c1':w.drew.cell? ⟨bk,n * 2,none⟩=some (.int .i64 s.1):=by rw [Nat.mul_comm];exact c1
  have hwn:IntKind.i64.wrap (n:Int)=(n:Int):=by rw [IntKind.wrap_i64];omega
  have hn0:(n:Int)<(n:Int)+1:=oQ
  have cd:w.drew.cell? ⟨p,2,none⟩=some (.slice (some ⟨bk,0,none⟩) (n+1) c):=c2
  have hw1:IntKind.i64.wrap (s.1+1)=s.1+1:=by rw [IntKind.wrap_i64];omega
  have Hs:=uQ hs;have Hn:=uQ hn
  clear hs hn hb hlen hl c2'
  go_enter Tryz.func152,Tryz.ntmps152
  go_wp2_with (go_at_call 70;refine hok.mono ?_;rintro e w1 ⟨v,rfl,rfl,rfl⟩)
  go_region
  go_wp2
  go_ret
  exact ⟨_,rfl,by rw [Hfin.out];rfl,hS⟩
end
end Go.Proofs.YtlinnpehkfbnkaaGreatDoor
namespace Go.Seg
open Go.Med
structure Plc where
 seg:Int
 at_:Int
 size:Int
def Plc.zero:Plc:=⟨0,0,0⟩
def mag:Bs:=[72,79,65,82,68,83,69,71]
def Log.grow (L:Log) (M:Med) (b:Bs):(Log×Med)×Plc×Int:=
 match L.l.getLast? with
 |none=>((L,M),Plc.zero,0)
 |some s=>
  if (M.append (name s.1) b).2=0 then (({ L with l:=L.l.dropLast++[(s.1,s.2+(b.length:Int))] },(M.append (name s.1) b).1),⟨s.1,s.2,b.length⟩,0)
  else ((L,(M.append (name s.1) b).1),Plc.zero,(M.append (name s.1) b).2)
def Log.shut (L:Log) (M:Med):(Log×Med)×Int:=
 match L.l.getLast? with
 |none=>((L,M),0)
 |some s=>
  if L.on=true then
   if (M.sync (name s.1)).2=0 then (({ L with on:=false },(M.sync (name s.1)).1),0)
   else ((L,(M.sync (name s.1)).1),(M.sync (name s.1)).2)
  else ((L,M),0)
def Log.begin1 (L:Log) (M:Med) (b:Bs):(Log×Med)×Plc×Int:=
 if 1048576≤L.next then ((L,M),Plc.zero,16)
 else if (M.create (name L.next)).2≠0 then ((L,(M.create (name L.next)).1),Plc.zero,(M.create (name L.next)).2)
 else if ((M.create (name L.next)).1.append (name L.next) (mag++b)).2=0 then
  (({ L with l:=L.l++[(L.next,8+(b.length:Int))],on:=true,fresh:=L.fresh+1 },((M.create (name L.next)).1.append (name L.next) (mag++b)).1),⟨L.next,8,b.length⟩,0)
 else if ((M.create (name L.next)).1.append (name L.next) (mag++b)).2=11 then
  ((L,(((M.create (name L.next)).1.append (name L.next) (mag++b)).1.remove (name L.next)).1),Plc.zero,
   if (((M.create (name L.next)).1.append (name L.next) (mag++b)).1.remove (name L.next)).2=0 then 11 else (((M.create (name L.next)).1.append (name L.next) (mag++b)).1.remove (name L.next)).2)
 else ((L,((M.create (name L.next)).1.append (name L.next) (mag++b)).1),Plc.zero,((M.create (name L.next)).1.append (name L.next) (mag++b)).2)
def Log.begin (L:Log) (M:Med) (b:Bs):(Log×Med)×Plc×Int:=
 if (L.shut M).2=0 then (L.shut M).1.1.begin1 (L.shut M).1.2 b else ((L.shut M).1,Plc.zero,(L.shut M).2)
def Log.fits (L:Log) (n:Nat):Bool:=L.on && decide ((L.l.getLast?.map (·.2)).getD 0+n≤L.limit)
def Log.append (L:Log) (M:Med) (x:Frm.Ent):(Log×Med)×Plc×Int:=
 if (Frm.encode x).2≠0 then ((L,M),Plc.zero,(Frm.encode x).2)
 else if L.fits (Frm.encode x).1.length=true then L.grow M (Frm.encode x).1 else L.begin M (Frm.encode x).1
def comEnt:Frm.Ent:=⟨2,Frm.zero32,[]⟩
def Log.commit (L:Log) (M:Med):(Log×Med)×Int×Int:=
 if (L.append M comEnt).2.2≠0 then ((L.append M comEnt).1,0,(L.append M comEnt).2.2)
 else if ((L.append M comEnt).1.2.sync (name (L.append M comEnt).2.1.seg)).2≠0 then (((L.append M comEnt).1.1,((L.append M comEnt).1.2.sync (name (L.append M comEnt).2.1.seg)).1),0,((L.append M comEnt).1.2.sync (name (L.append M comEnt).2.1.seg)).2)
 else if (((L.append M comEnt).1.2.sync (name (L.append M comEnt).2.1.seg)).1.syncDir).2≠0 then (((L.append M comEnt).1.1,(((L.append M comEnt).1.2.sync (name (L.append M comEnt).2.1.seg)).1.syncDir).1),0,(((L.append M comEnt).1.2.sync (name (L.append M comEnt).2.1.seg)).1.syncDir).2)
 else (({ (L.append M comEnt).1.1 with on:=false,fresh:=0 },(((L.append M comEnt).1.2.sync (name (L.append M comEnt).2.1.seg)).1.syncDir).1),(L.append M comEnt).2.1.seg,0)
def Log.at (L:Log) (n:Int):Option Nat:=L.l.findIdx? (fun s=>s.1==n)
def Log.find (L:Log) (n:Int):Int:=match L.at n with
 |some i=>i
 |none=> -1
def Log.without (L:Log) (i:Nat):Log:=
 ⟨L.limit,L.l.eraseIdx i,if i+1=L.l.length then false else L.on,if (L.l.length:Int) - L.fresh≤i then L.fresh - 1 else L.fresh⟩
def Log.remove (L:Log) (M:Med) (n:Int):(Log×Med)×Int:=
 match L.at n with
 |none=>((L,M),9)
 |some i=>if (M.remove (name n)).2=0 then ((L.without i,(M.remove (name n)).1),0) else ((L,(M.remove (name n)).1),(M.remove (name n)).2)
def Log.size (L:Log) (n:Int):Int:=match L.at n with
 |none=>0
 |some i=>(L.l.getD i (0,0)).2
def Log.bytes (L:Log) (M:Med) (n:Int):Bs×Int:=match L.at n with
 |none=>([],9)
 |some _=>M.all (name n)
structure Log.Ok (L:Log):Prop where
 limit:128≤L.limit∧L.limit≤1048576
 rise:(L.l.map (·.1)).Pairwise (· < ·)
 nums:∀ s∈L.l,0≤s.1∧s.1<1048576
 sizes:∀ s∈L.l,0≤s.2∧s.2≤33554432
 fresh:0≤L.fresh∧L.fresh≤L.l.length
 on:L.on=true→L.l≠[]
theorem rise_len:∀ (l:List Int) (a:Int),l.Pairwise (· < ·)→(∀ x∈l,a≤x)→(∀ x∈l,x<1048576)→a≤1048576→(l.length:Int)≤1048576 - a
 |[],a,_,_,_,h=>by simp;omega
 |x::l,a,hp,h1,h2,h3=>by
  obtain ⟨hx,hp'⟩:=List.pairwise_cons.1 hp
  have e1:=h1 x (.head _)
  have e2:=h2 x (.head _)
  have:=rise_len l (x+1) hp' (fun y hy=>by have:=hx y hy;omega) (fun y hy=>h2 y (.tail _ hy)) oQ
  rw [List.length_cons];omega
theorem Log.Ok.len {L:Log} (h:L.Ok):L.l.length≤1048576:=by
 have:=rise_len (L.l.map (·.1)) 0 h.rise (by intro x hx;obtain ⟨s,hs,rfl⟩:=List.mem_map.1 hx;exact (h.nums s hs).1) (by intro x hx;obtain ⟨s,hs,rfl⟩:=List.mem_map.1 hx;exact (h.nums s hs).2) oQ
 rw [List.length_map]at this
 omega
theorem Log.Ok.shut {L:Log} (h:L.Ok) (M:Med):(L.shut M).1.1.Ok:=by
 unfold Log.shut
 split;· exact h
 split
 ·split
  ·exact ⟨h.limit,h.rise,h.nums,h.sizes,h.fresh,fun hh=>by cases hh⟩
  ·exact h
 ·exact h
theorem last_split {L:Log}{s:Int×Int} (h:L.l.getLast?=some s):L.l=L.l.dropLast++[s]:=by
 have hne:L.l≠[]:=by intro e;rw [e]at h;cases h
 have h2:=List.dropLast_concat_getLast hne
 rw [List.getLast?_eq_some_getLast hne]at h
 cases h
 exact h2.symm
theorem last_len {L:Log}{s:Int×Int} (h:L.l.getLast?=some s):L.l.length=L.l.dropLast.length+1:=by
 have:=congrArg List.length (last_split h)
 rw [List.length_append,List.length_singleton]at this
 exact this
theorem Log.Ok.next {L:Log} (h:L.Ok):0≤L.next∧L.next≤1048576∧∀ s∈L.l,s.1<L.next:=by
 unfold Log.next
 cases hl:L.l.getLast? with
 |none=>
  have:=List.getLast?_eq_none_iff.1 hl
  simp [this]
 |some s=>
  have hs:=h.nums s (List.mem_of_getLast? hl)
  refine ⟨by simp only;omega,by simp only;omega,?_⟩
  have e:=last_split hl
  have hr:=h.rise
  rw [e,List.map_append,List.pairwise_append]at hr
  intro t ht
  rw [e]at ht
  rcases List.mem_append.1 ht with ht|ht
  ·have:=hr.2.2 t.1 (List.mem_map.2 ⟨t,ht,rfl⟩) s.1 (by simp)
   simp only;omega
  ·rw [List.mem_singleton.1 ht];simp only;omega
theorem Log.Ok.snoc {L:Log} (h:L.Ok) (hn:L.next<1048576) (z:Nat) (hz:z≤16777216):({ L with l:=L.l++[(L.next,8+(z:Int))],on:=true,fresh:=L.fresh+1 }:Log).Ok:=by
 obtain ⟨n1,n2,n3⟩:=h.next
 have hf:=h.fresh
 refine ⟨h.limit,?_,?_,?_,⟨by simp only;omega,by simp only [List.length_append,List.length_singleton];omega⟩,fun _=>by simp⟩
 ·simp only
  rw [List.map_append,List.pairwise_append]
  refine ⟨h.rise,by simp,?_⟩
  intro a ha b hb
  obtain ⟨s,hs,rfl⟩:=List.mem_map.1 ha
  simp only [List.map_cons,List.map_nil,List.mem_singleton]at hb
  subst hb
  exact n3 s hs
 ·intro s hs
  rcases List.mem_append.1 hs with hs|hs
  ·exact h.nums s hs
  ·rw [List.mem_singleton.1 hs];exact ⟨n1,hn⟩
 ·intro s hs
  rcases List.mem_append.1 hs with hs|hs
  ·exact h.sizes s hs
  ·rw [List.mem_singleton.1 hs];exact ⟨by simp only;omega,by simp only;omega⟩
theorem Log.Ok.begin1 {L:Log} (h:L.Ok) (M:Med) (b:Bs) (hb:b.length≤16777216):(L.begin1 M b).1.1.Ok:=by
 unfold Log.begin1
 split;· exact h
 rename_i hn
 split;· exact h
 split;· exact h.snoc oQ _ hb
 split;· exact h
 exact h
theorem Log.Ok.begin {L:Log} (h:L.Ok) (M:Med) (b:Bs) (hb:b.length≤16777216):(L.begin M b).1.1.Ok:=by
 unfold Log.begin
 split
 ·exact (h.shut M).begin1 _ _ hb
 ·exact h.shut M
theorem Log.Ok.grow {L:Log} (h:L.Ok) (M:Med) (b:Bs) (hf:L.fits b.length=true):(L.grow M b).1.1.Ok:=by
 unfold Log.grow
 split;· exact h
 rename_i s hl
 split
 ·have e:=last_split hl
  have hr:=h.rise
  have hlen:L.l.length=L.l.dropLast.length+1:=last_len hl
  unfold Log.fits at hf
  rw [Bool.and_eq_true,decide_eq_true_eq,hl]at hf
  have hlim:=h.limit
  refine ⟨h.limit,?_,?_,?_,?_,fun _=>by simp⟩
  ·rw [e]at hr;simpa using hr
  ·intro t ht
   rcases List.mem_append.1 ht with ht|ht
   ·exact h.nums t (by rw [e];exact List.mem_append_left _ ht)
   ·rw [List.mem_singleton.1 ht]
    exact h.nums s (List.mem_of_getLast? hl)
  ·intro t ht
   rcases List.mem_append.1 ht with ht|ht
   ·exact h.sizes t (by rw [e];exact List.mem_append_left _ ht)
   ·rw [List.mem_singleton.1 ht]
    have:=h.sizes s (List.mem_of_getLast? hl)
    have h2:s.2+(b.length:Int)≤L.limit:=hf.2
    simp only;omega
  ·have:=h.fresh
   simp only [List.length_append,List.length_singleton]
   omega
 ·exact h
theorem encode_len (x:Frm.Ent) (hk:x.key.length=32):(Frm.encode x).1.length≤16425:=by
 unfold Frm.encode
 split;· simp
 rename_i hc
 have hd:x.data.length≤16384:=by
  unfold Frm.check at hc
  repeat' split at hc
  all_goals first|omega|simp at hc
 unfold Frm.body
 simp only [List.length_append,Frm.le_len,List.length_singleton]
 split
 ·simp;omega
 ·omega
theorem Log.Ok.append {L:Log} (h:L.Ok) (M:Med) (x:Frm.Ent) (hk:x.key.length=32):(L.append M x).1.1.Ok:=by
 have hl:=encode_len x hk
 unfold Log.append
 split;· exact h
 split
 ·rename_i hf;exact h.grow M _ hf
 ·exact h.begin M _ oQ
theorem Log.Ok.commit {L:Log} (h:L.Ok) (M:Med):(L.commit M).1.1.Ok:=by
 have h1:=h.append M comEnt rfl
 unfold Log.commit
 split;· exact h1
 split;· exact h1
 split;· exact h1
 exact ⟨h1.limit,h1.rise,h1.nums,h1.sizes,⟨Int.le_refl _,by simp⟩,fun hh=>by cases hh⟩
theorem Log.at_lt {L:Log}{n:Int}{i:Nat} (h:L.at n=some i):i<L.l.length∧∃ s,L.l[i]?=some s∧s.1=n:=by
 unfold Log.at at h
 rw [List.findIdx?_eq_some_iff_getElem]at h
 obtain ⟨h1,h2,_⟩:=h
 exact ⟨h1,_,List.getElem?_eq_getElem h1,by simpa using h2⟩
theorem Log.Ok.at_last {L:Log} (h:L.Ok){s:Int×Int} (hl:L.l.getLast?=some s):L.at s.1=some (L.l.length - 1):=by
 have e:=last_split hl
 have hlen:L.l.length=L.l.dropLast.length+1:=last_len hl
 have hr:=h.rise
 rw [e,List.map_append,List.pairwise_append]at hr
 unfold Log.at
 rw [List.findIdx?_eq_some_iff_getElem]
 refine ⟨by omega,?_,?_⟩
 ·have:L.l[L.l.length - 1]?=some s:=by rw [← List.getLast?_eq_getElem?];exact hl
  obtain ⟨h1,h2⟩:=List.getElem?_eq_some_iff.1 this
  rw [h2];simp
 ·intro j hj
  have hj':j<L.l.dropLast.length:=oQ
  have hx:L.l[j]'oQ=L.l.dropLast[j]:=by rw [List.getElem_dropLast]
  have h3:(L.l.dropLast[j]).1<s.1:=hr.2.2 (L.l.dropLast[j]).1 (List.mem_map.2 ⟨_,List.getElem_mem hj',rfl⟩) s.1 (by simp)
  rw [hx]
  rw [Bool.not_eq_true,beq_eq_false_iff_ne]
  omega
def Log.back:Nat→Log→Med→(Log×Med)×Int
 |0,L,M=>(({ L with on:=false },M),0)
 |k+1,L,M=>
  match L.l.getLast? with
  |none=>(({ L with on:=false },M),0)
  |some s=>if (L.remove M s.1).2=0 then Log.back k (L.remove M s.1).1.1 (L.remove M s.1).1.2 else L.remove M s.1
end Go.Seg
namespace Go.Proofs.YtlinnpehkfbnkaaGreatDoor
open Go Go.Sl Go.Med Go.MapKept Go.RowKit
section
variable {w0 w:World}{L L' R:List HProp}{b:Nat}{ops:Array Oper}{rest:List Oper}{a:Act}{Q:Exit→Act→World→Prop}
variable {dst:Option Tmp}{t T:TypeId}{pos:String}{after:Array Edge}{x y:Operand}{cs:Array Value}{v:Value}{e:Frm.Ent}{da:Option Addr}{dn dc:Nat}
theorem run_buildTag (tag:Int) (w:World):(Instr.build 27 #[(0,.int .i64 tag)]).run Tryz.prog w = .ok (.agg (entA ⟨tag,Frm.zero32,[]⟩ (.slice none 0 0))) w:=by
 have hz:(entA Frm.zeroE (.slice none 0 0)).size=34:=entA_size _ _ rfl
 have h:=run_build (P:=Tryz.prog) [(0,.int .i64 tag)] plEnt zEnt (by
  intro p hp
  rw [List.mem_singleton]at hp
  subst hp
  have hzz:zeroEntV.cells.size=34:=hz
  rw [hzz]
  exact ⟨0,rfl,by show 0+1≤34;omega⟩) w
 exact h
theorem wl_buildTag {tag:Int} (hx:a.eval x = .int .i64 tag) (h:wpList Tryz.prog ops Q rest (a.put dst (.agg (entA ⟨tag,Frm.zero32,[]⟩ (.slice none 0 0)))) w):wpList Tryz.prog ops Q (⟨dst,.build 27 #[(0,x)],t,pos,after,none⟩::rest) a w:=
 wpList_plain rfl fun _ hK=>by
  unfold Oper.wp execOp
  simp only [List.map_toArray,List.map_cons,List.map_nil,hx,Sem.run_bind,run_buildTag,Result.andThen_ok,Sem.run_pure]
  exact hK _ _ h
theorem wl_buildZ (h:wpList Tryz.prog ops Q rest (a.put dst (.agg (entA Frm.zeroE (.slice none 0 0)))) w):wpList Tryz.prog ops Q (⟨dst,.build 27 #[],t,pos,after,none⟩::rest) a w:=
 wpList_plain rfl fun _ hK=>by
  unfold Oper.wp execOp
  simp only [List.map_toArray,List.map_nil,Sem.run_bind,run_zeroEnt,Result.andThen_ok,Sem.run_pure]
  exact hK _ _ h
theorem at_buildTag (h:Stop (wpList Tryz.prog ops Q (⟨dst,.build 27 #[(0,x)],t,pos,after,none⟩::rest) a w)):wpList Tryz.prog ops Q (⟨dst,.build 27 #[(0,x)],t,pos,after,none⟩::rest) a w:=h.out
theorem at_buildZ (h:Stop (wpList Tryz.prog ops Q (⟨dst,.build 27 #[],t,pos,after,none⟩::rest) a w)):wpList Tryz.prog ops Q (⟨dst,.build 27 #[],t,pos,after,none⟩::rest) a w:=h.out
theorem wl_slice2 {P:Program}{ty:TypeId}{z:Operand}{vx vy vz:Value} (hx:a.eval x=vx) (hy:a.eval y=vy) (hz:a.eval z=vz) (hr:∀ w,(Instr.sliceAt ty vx (some vy) (some vz) none).run P w = .ok v w)
  (h:wpList P ops Q rest (a.put dst v) w):wpList P ops Q (⟨dst,.slice ty x (some y) (some z) none,t,pos,after,none⟩::rest) a w:=
 wpList_plain rfl fun _ hK=>by
  unfold Oper.wp execOp
  simp only [hx,hy,hz,Option.map_some,Option.map_none,Sem.run_bind,hr,Result.andThen_ok,Sem.run_pure]
  exact hK _ _ h
theorem at_slice2 {P:Program}{ty:TypeId}{z:Operand} (h:Stop (wpList P ops Q (⟨dst,.slice ty x (some y) (some z) none,t,pos,after,none⟩::rest) a w)):wpList P ops Q (⟨dst,.slice ty x (some y) (some z) none,t,pos,after,none⟩::rest) a w:=h.out
theorem run_arrKey (ad:Addr) (c:Nat) (w:World):(Instr.arrayAt 24 (.slice (some ad) 32 c)).run Tryz.prog w = .ok (.pointer (some ad)) w:=by
 simp [Instr.arrayAt,run_underlying (P:=Tryz.prog) Tryz.underlying24]
theorem puts_key {e:Frm.Ent}{dv:Value} (hk:e.key.length=32) (key:Bs) (hk2:key.length=32):putsAt (entA e dv) 1 (bys key)=entA ⟨e.tag,key,e.data⟩ dv:=by
 apply putsAt_eq
 have hz:=entA_size e dv hk
 have h1:(bys key).length=32:=by rw [bys_len,hk2]
 have h2:(bys e.key).length=32:=by rw [bys_len,hk]
 rw [putsAt_list _ _ _ oQ]
 unfold entA entL
 rw [List.toList_toArray,List.toList_toArray,h1,show 1+32=32+1 by omega,List.drop_succ_cons,List.take_succ_cons,List.take_zero,List.drop_append_of_le_length oQ,List.drop_of_length_le oQ]
 simp
theorem puts_data {e:Frm.Ent}{dv:Value} (hk:e.key.length=32) (data:Bs) (dv2:Value):putsAt (entA e dv) 33 [dv2]=entA ⟨e.tag,e.key,data⟩ dv2:=by
 apply putsAt_eq
 have hz:=entA_size e dv hk
 have h2:(bys e.key).length=32:=by rw [bys_len,hk]
 rw [putsAt_list _ _ _ (by simp;omega)]
 unfold entA entL
 rw [List.toList_toArray,List.toList_toArray,List.length_singleton,show 33+1=33+1 from rfl,List.drop_succ_cons,List.take_succ_cons,List.take_append_of_le_length oQ,List.take_of_length_le oQ,List.drop_of_length_le (by simp;omega)]
 simp
theorem infoKey:(Tryz.prog.info? 24).map (·.size)=some 32:=by kernel_rfl
theorem infoSl:(Tryz.prog.info? 25).map (·.size)=some 1:=by kernel_rfl
theorem wl_storeK {dv:Value}{key:Bs} (hs:Sat w0 w L) (hx:a.eval x = .pointer (some ⟨b,1,none⟩)) (hy:a.eval y = .agg (bys key).toArray) (hk:e.key.length=32) (hk2:key.length=32) (u:Upd (pt b (.cells (entA e dv) T (0,0))) (pt b (.cells (entA ⟨e.tag,key,e.data⟩ dv) T (0,0))) L L')
  (hK:∀ w',Sat w0 w' L'→wpList Tryz.prog ops Q rest (a.put dst undef) w'):wpList Tryz.prog ops Q (⟨dst,.store 24 x y,t,pos,after,none⟩::rest) a w:=by
 obtain ⟨R',h2,h3⟩:=u
 have hz:=entA_size e dv hk
 have hb:(bys key).toArray.size=32:=by simp [bys,hk2]
 refine wpList_store_sat (w0:=w0) rfl 24 x y rfl 1 (.agg (bys key).toArray) hx hy (show 1+(bys key).toArray.size≤(entA e dv).size by omega) (show _=some (bys key).toArray.size by rw [hb];exact infoKey) ?_ (hs.perm h2) fun w' hS=>hK w' ?_
 ·show (bys key).toArray.all _=true
  rw [← Array.all_toList]
  exact List.all_eq_true.2 (bys_one _)
 ·have he:putsAt (entA e dv) 1 (Value.agg (bys key).toArray).cells.toList=entA ⟨e.tag,key,e.data⟩ dv:=puts_key hk key hk2
  rw [he]at hS
  exact hS.perm h3.symm
theorem wl_storeD {dv:Value}{data:Bs} (hs:Sat w0 w L) (hx:a.eval x = .pointer (some ⟨b,33,none⟩)) (hy:a.eval y = .slice da dn dc) (hk:e.key.length=32) (u:Upd (pt b (.cells (entA e dv) T (0,0))) (pt b (.cells (entA ⟨e.tag,e.key,data⟩ (.slice da dn dc)) T (0,0))) L L')
  (hK:∀ w',Sat w0 w' L'→wpList Tryz.prog ops Q rest (a.put dst undef) w'):wpList Tryz.prog ops Q (⟨dst,.store 25 x y,t,pos,after,none⟩::rest) a w:=by
 obtain ⟨R',h2,h3⟩:=u
 have hz:=entA_size e dv hk
 refine wpList_store_sat (w0:=w0) rfl 25 x y rfl 33 (.slice da dn dc) hx hy (show 33+1≤(entA e dv).size by omega) infoSl (by simp [Value.cells,Value.oneCell']) (hs.perm h2) fun w' hS=>hK w' ?_
 have he:putsAt (entA e dv) 33 (Value.slice da dn dc).cells.toList=entA ⟨e.tag,e.key,data⟩ (.slice da dn dc):=puts_data hk data _
 rw [he]at hS
 exact hS.perm h3.symm
theorem res_entE3 {fn:Func}{p u q:Tmp}{tmps:Array Value} (hf:fn.results=#[.cell p 27,.tmp u,.tmp q]) (hs:Sat w0 w L) (hp:tmps.getD p undef = .pointer (some ⟨b,0,none⟩)) (k:Pick (pt b (.cells (entA e (.slice da dn dc)) T (0,0))) L R) (hk:e.key.length=32) :
  (results fn tmps).run Tryz.prog w = .ok (.tuple #[.agg (entA e (.slice da dn dc)),tmps.getD u undef,tmps.getD q undef]) w:=by
 have hl:=run_loadVar_row (P:=Tryz.prog) w b T 27 (entA e (.slice da dn dc)) (0,0) _ (hs.pick k).at Tryz.underlying27 rFz (by rw [entA_size e _ hk];exact infoEntSize)
 have hp':tmps[p]?.getD undef = .pointer (some ⟨b,0,none⟩):=by simpa using hp
 simp [results,hf,hp',asAddr,hl,Result.andThen]
end
section
variable {w0 w:World}{F R:List HProp}{v bv dv x lv:Value}
theorem rdsl_sub {l:Bs}{bk off n c:Nat} (h:rdsl 1 (.slice (some ⟨bk,off,none⟩) n c) (bys l) w) (i j c':Nat) (hij:i≤j) (hj:j≤l.length):rdsl 1 (.slice (some ⟨bk,off+i,none⟩) (j - i) c') (bys ((l.take j).drop i)) w:=by
 obtain ⟨a',n',c'',he,hl,hx⟩:=h
 cases he
 refine ⟨_,_,_,rfl,by rw [bys_len,List.length_drop,List.length_take];omega,fun k y hk=>⟨_,rfl,?_⟩⟩
 have hk':(bys l)[i+k]?=some y:=by
  unfold bys at hk ⊢
  rw [List.map_drop,List.map_take,List.getElem?_drop,List.getElem?_take]at hk
  split at hk
  ·exact hk
  ·cases hk
 obtain ⟨b',hb',hc⟩:=hx _ _ hk'
 cases hb'
 rw [Addr.add_mid]at hc ⊢
 rw [Nat.add_assoc];exact hc
end
section
variable {w0 w:World}{F R:List HProp}{v bv dv x lv:Value}
set_option maxRecDepth 20000 in
theorem fread_c (l:Bs) (hr:Ro w0 F (rdsl 1 bv (bys l))) (hcap:capOk bv) (hH:Ro w0 F Half) (hl:l.length≤1099511627776) (h:Sat w0 w F) :
  Calls Tryz.prog 116 #[bv] w (Rtn fun v w'=>∃ da dc,v = .tuple #[.agg (entA (Frm.read l).1 (.slice da (Frm.read l).1.data.length dc)),.int .i64 (Frm.read l).2.1,errno (Frm.read l).2.2]∧Sat w0 w' (bsl (.slice da (Frm.read l).1.data.length dc) (Frm.read l).1.data::F)):=by
 obtain ⟨ba,bn,bc,rfl,hbn,hbc⟩:=hcap
 have hln:bn=l.length:=by
  obtain ⟨_,_,_,he,hl',_⟩:=hr w h
  cases he
  rw [bys_len,Nat.mul_one]at hl';exact hl'.symm
 subst hln
 by_cases h9:l.length<9
 ·have Hf:=uQ (show Frm.read l=(Frm.zeroE,0,3) by unfold Frm.read;rw [if_pos h9])
  have c1:(l.length:Int)<9:=oQ
  clear hr hH h9 hl
  go_enter Tryz.func116,Tryz.ntmps116
  go_wp2_with (first|((with_reducible refine at_allocE ⟨?_⟩);refine wl_allocE aQ ?_;intro bE wE hE)|((with_reducible refine at_buildZ ⟨?_⟩);refine wl_buildZ ?_)|((with_reducible refine at_storeE ⟨?_⟩);first|(refine wl_storeE aQ rFz rFz fQ upD sQ ?_;intro wS hS)|(refine wl_storeE (e:=Frm.zeroE) (da:=none) (dn:=0) (dc:=0) aQ rFz rFz rfl upD sQ ?_;intro wS hS)))
  rw [Hf.out]
  refine ⟨rfl,_,res_entE3 rfl aQ rFz pkD rfl,_,rfl,none,0,rfl,Sat.osl_nil.2 (Sat.sb hS)⟩
 obtain ⟨bk,off,rfl,hcell⟩:∃ bk off,ba=some ⟨bk,off,none⟩∧True:=by
  have hx:(bys l)[0]?=some (.int .u8 (l[0]'oQ).toNat):=by
   unfold bys;rw [List.getElem?_map,List.getElem?_eq_getElem oQ];rfl
  obtain ⟨bk,off,hb,_⟩:=rdsl_cells (hr w h) hx
  exact ⟨bk,off,hb,trivial⟩
 clear hcell
 have hrd:=hr w h
 have Hsub:=uQ (show ∀ (i j:Nat),i≤j→j≤l.length→∀ w,Sat w0 w F→rdsl 1 (.slice (some ⟨bk,off+i,none⟩) (j - i) (bc - i)) (bys ((l.take j).drop i)) w from fun i j h1 h2 w hw=>rdsl_sub (hr w hw) i j (bc - i) h1 h2)
 have Hnum:=uQ (show ∀ w,Sat w0 w F→Calls Tryz.prog 171 #[.slice (some ⟨bk,off+4,none⟩) (l.length - 4) (bc - 4)] w (Rtn fun v w'=>v = .int .u32 (Frm.num ((l.drop 4).take 4):Nat)∧w=w') from fun w hw=>number_c (l.drop 4) (by rw [List.length_drop];omega) _ (l.length - 4) (bc - 4) oQ oQ (by
  have:=Hsub.out 4 l.length oQ (Nat.le_refl _) w hw
  rw [List.take_length]at this
  exact this))
 have Hnum0:=uQ (show ∀ w,Sat w0 w F→Calls Tryz.prog 171 #[.slice (some ⟨bk,off,none⟩) l.length bc] w (Rtn fun v w'=>v = .int .u32 (Frm.num (l.take 4):Nat)∧w=w') from fun w hw=>number_c l oQ _ l.length bc hbn hbc (hr w hw))
 have Hread:=uQ (show Frm.read l=if Frm.fits (l.getD 8 0) (Frm.num ((l.drop 4).take 4))=false then (Frm.zeroE,0,4)
  else if l.length<Frm.num ((l.drop 4).take 4) then (Frm.zeroE,0,3)
  else if Frm.crc ((l.take (Frm.num ((l.drop 4).take 4))).drop 4)≠Frm.num (l.take 4) then (Frm.zeroE,0,13)
  else if 41≤Frm.num ((l.drop 4).take 4) then (⟨(l.getD 8 0).toNat,(l.drop 9).take 32,(l.take (Frm.num ((l.drop 4).take 4))).drop 41⟩,Frm.num ((l.drop 4).take 4),0)
  else (⟨(l.getD 8 0).toNat,Frm.zero32,[]⟩,Frm.num ((l.drop 4).take 4),0) by unfold Frm.read;rw [if_neg h9])
 have hN:Frm.num ((l.drop 4).take 4)<4294967296:=by
  have:=Frm.num_lt ((l.drop 4).take 4)
  rw [List.length_take,List.length_drop]at this
  have h4:min 4 (l.length - 4)=4:=oQ
  rw [h4]at this
  omega
 generalize hNN:Frm.num ((l.drop 4).take 4)=N at *
 have hfits:=fun w=>fits_c (l.getD 8 0) N hN w
 have hfg:Frm.fits (l.getD 8 0) N=true→9≤N:=by
  unfold Frm.fits
  intro hh
  split at hh
  ·have:=of_decide_eq_true hh;omega
  ·split at hh
   ·have:=of_decide_eq_true hh;omega
   ·split at hh
    ·have:=of_decide_eq_true hh;omega
    ·cases hh
 have hc8:∀ w,Sat w0 w F→w.cell? ⟨bk,off+8,none⟩=some (.int .u8 (l.getD 8 0).toNat):=fun w hw=>by
  have hx:(bys l)[8]?=some (.int .u8 (l.getD 8 0).toNat):=by
   unfold bys;rw [List.getElem?_map,List.getD_eq_getElem?_getD,List.getElem?_eq_getElem oQ];rfl
  obtain ⟨bk',off',hb,hc⟩:=rdsl_cells (hr w hw) hx
  cases hb
  exact hc _ _ hx
 have Hc8:=uQ hc8;have Hr:=uQ hr;have HH:=uQ hH;have Hl:=uQ hl;have Hfg:=uQ hfg;have Hfits:=uQ hfits
 have c1:¬ (l.length:Int)<9:=oQ
 have c2:¬ bc=4:=oQ
 have c3:(4:Int)≤(l.length:Int):=oQ
 have c4:(l.length:Int)≤(bc:Int):=oQ
 have c5:(8:Int)<(l.length:Int):=oQ
 have Hbn:=uQ (show l.length≤bc∧bc≤9223372036854775807∧9≤l.length∧N<4294967296 from ⟨hbn,hbc,by omega,hN⟩)
 have hcv:IntKind.i64.wrap (N:Int)=(N:Int):=by rw [IntKind.wrap_i64];omega
 clear hrd hNN hc8 hr hH hl h9 hbn hbc hfg hfits hN
 generalize l.getD 8 0=tg at *
 have htg:=tg.toNat_lt
 have hct:IntKind.i64.wrap (tg.toNat:Int)=(tg.toNat:Int):=by rw [IntKind.wrap_i64];omega
 have htb:(tg.toNat:Int)<256:=oQ
 go_enter Tryz.func116,Tryz.ntmps116
 go_wp2_with ((with_reducible refine at_allocE ⟨?_⟩);refine wl_allocE aQ ?_;intro bE wE hE)
 refine (Hnum.out _ hE.drop).mono ?_
 rintro ee w2 ⟨v,rfl,rfl,rfl⟩
 have e8:=Hc8.out _ hE.drop
 go_wp2_with fail
 refine (Hfits.out _).mono ?_
 rintro ee w2 ⟨v,rfl,rfl,rfl⟩
 cases hft:Frm.fits tg N
 ·have Hf:=uQ (Hread.out.trans (if_pos hft))
  clear hft
  go_wp2_with (first|((with_reducible refine at_buildZ ⟨?_⟩);refine wl_buildZ ?_)|((with_reducible refine at_storeE ⟨?_⟩);first|(refine wl_storeE aQ rFz rFz fQ upD sQ ?_;intro wS hS)|(refine wl_storeE (e:=Frm.zeroE) (da:=none) (dn:=0) (dc:=0) aQ rFz rFz rfl upD sQ ?_;intro wS hS)))
  rw [Hf.out]
  refine ⟨rfl,_,res_entE3 rfl aQ rFz pkD rfl,_,rfl,none,0,rfl,Sat.osl_nil.2 (Sat.sb hS)⟩
 have Hf:=uQ (Hread.out.trans (if_neg (by rw [hft];decide)))
 have hN9:=Hfg.out hft
 clear hft
 by_cases hlN:l.length<N
 ·have Hf2:=uQ (Hf.out.trans (if_pos hlN))
  have c6:(l.length:Int)<(N:Int):=oQ
  clear hlN hN9
  go_wp2_with (first|((with_reducible refine at_buildZ ⟨?_⟩);refine wl_buildZ ?_)|((with_reducible refine at_storeE ⟨?_⟩);first|(refine wl_storeE aQ rFz rFz fQ upD sQ ?_;intro wS hS)|(refine wl_storeE (e:=Frm.zeroE) (da:=none) (dn:=0) (dc:=0) aQ rFz rFz rfl upD sQ ?_;intro wS hS)))
  rw [Hf2.out]
  refine ⟨rfl,_,res_entE3 rfl aQ rFz pkD rfl,_,rfl,none,0,rfl,Sat.osl_nil.2 (Sat.sb hS)⟩
 have Hf2:=uQ (Hf.out.trans (if_neg hlN))
 clear Hf Hread
 have c6:¬ (l.length:Int)<(N:Int):=oQ
 have c7:(4:Int)≤(N:Int):=oQ
 have c8:(N:Int)≤(bc:Int):=oQ
 have HlN:=uQ (show N≤l.length∧9≤N by omega)
 clear hlN hN9
 go_wp2_with fail
 refine (crc_c ((l.take N).drop 4) (Ro.os HH.out) (fun w hw=>Hsub.out 4 N (by have:=HlN.out;omega) HlN.out.1 w (hw.sb)) hE (by rw [List.length_drop,List.length_take];have:=Hl.out;omega)).mono ?_
 rintro ee w2 ⟨v,rfl,rfl,rfl⟩
 go_wp2_with fail
 refine (Hnum0.out _ hE.drop).mono ?_
 rintro ee w2 ⟨v,rfl,rfl,rfl⟩
 generalize Frm.crc ((l.take N).drop 4)=A at *
 generalize Frm.num (l.take 4)=B at *
 by_cases hAB:A=B
 rotate_left
 ·have Hf3:=uQ (Hf2.out.trans (if_pos hAB))
  have c9:((A:Int)==(B:Int))=false:=by rw [beq_eq_false_iff_ne];omega
  clear hAB
  go_wp2_with (first|((with_reducible refine at_buildZ ⟨?_⟩);refine wl_buildZ ?_)|((with_reducible refine at_storeE ⟨?_⟩);first|(refine wl_storeE aQ rFz rFz fQ upD sQ ?_;intro wS hS)|(refine wl_storeE (e:=Frm.zeroE) (da:=none) (dn:=0) (dc:=0) aQ rFz rFz rfl upD sQ ?_;intro wS hS)))
  rw [Hf3.out]
  refine ⟨rfl,_,res_entE3 rfl aQ rFz pkD rfl,_,rfl,none,0,rfl,Sat.osl_nil.2 (Sat.sb hS)⟩
 subst hAB
 have Hf3:=uQ (Hf2.out.trans (if_neg (fun h=>h rfl)))
 clear Hf2
 by_cases h41:41≤N
 rotate_left
 ·have Hf4:=uQ (Hf3.out.trans (if_neg h41))
  have c9:¬ (41:Int)≤(N:Int):=oQ
  clear h41
  go_wp2_with (first|((with_reducible refine at_buildTag ⟨?_⟩);refine wl_buildTag rFz ?_)|((with_reducible refine at_allocE ⟨?_⟩);refine wl_allocE aQ ?_;intro bE wE hE)|((with_reducible refine at_storeE ⟨?_⟩);first|(refine wl_storeE aQ rFz rFz fQ upD sQ ?_;intro wS hS)|(refine wl_storeE (e:=Frm.zeroE) (da:=none) (dn:=0) (dc:=0) aQ rFz rFz rfl upD sQ ?_;intro wS hS))|((with_reducible refine at_loadE ⟨?_⟩);refine wl_loadE aQ rFz pkD fQ ?_))
  rw [Hf4.out]
  simp only [List.length_nil]
  refine ⟨rfl,_,res_entE3 rfl aQ rFz pkD rfl,_,rfl,none,0,rfl,Sat.osl_nil.2 (Sat.sb hS)⟩
 have Hf4:=uQ (Hf3.out.trans (if_pos h41))
 have Hkl:=uQ (show ((l.drop 9).take 32).length=32 by rw [List.length_take,List.length_drop];have:=HlN.out;omega)
 have Hkb:=uQ (show (bys ((l.drop 9).take 32)).length=32 by rw [bys_len];exact Hkl.out)
 have Hrange:=uQ (show ∀ w,Sat w0 w F→w.rangeAt bk (off+9) (bys ((l.drop 9).take 32)) from fun w hw=>by
  intro j y hj
  have hsb:=Hsub.out 9 41 dCz (by have:=HlN.out;omega) w hw
  have e:(l.take 41).drop 9=(l.drop 9).take 32:=by rw [List.drop_take]
  rw [e]at hsb
  obtain ⟨b',o',hb,hc⟩:=rdsl_cells hsb hj
  cases hb
  exact hc _ _ hj)
 have c9:(41:Int)≤(N:Int):=oQ
 have c10:¬ bc=9:=by have:=HlN.out;have:=Hbn.out;omega
 have c11:(41:Int)≤(bc:Int):=oQ
 obtain ⟨ad,had,hsl⟩:∃ ad:Addr,(41<N→ad=⟨bk,off+41,none⟩)∧∀ w,(Instr.sliceAt 25 (.slice (some ⟨bk,off,none⟩) l.length bc) (some (.int .i64 41)) (some (.int .i64 N)) none).run Tryz.prog w = .ok (.slice (some ad) (N - 41) (bc - 41)) w:=by
  by_cases hce:bc=41
  ·refine ⟨⟨bk,off,none⟩,fun hh=>by have:=HlN.out;have:=Hbn.out;omega,fun w=>?_⟩
   have c12:(N:Int)≤41:=oQ
   have c13:¬ (41:Int)<(N:Int):=oQ
   go_simp
  ·refine ⟨⟨bk,off+41,none⟩,fun _=>rfl,fun w=>?_⟩
   go_simp
 have Had:=uQ had
 have Hdat:=uQ (show ∀ w,Sat w0 w F→rdsl 1 (.slice (some ad) (N - 41) (bc - 41)) (bys ((l.take N).drop 41)) w from fun w hw=>by
  by_cases h2:41<N
  ·rw [Had.out h2];exact Hsub.out 41 N oQ HlN.out.1 w hw
  ·have:(l.take N).drop 41=[]:=List.drop_of_length_le (by rw [List.length_take];omega)
   rw [this,show N - 41=0 by omega]
   exact ⟨_,0,_,rfl,rfl,by simp [bys]⟩)
 clear h41 had
 have hat:=fun w=>run_arrKey ⟨bk,off+9,none⟩ (bc - 9) w
 go_wp2_with (first
  |((with_reducible refine at_buildTag ⟨?_⟩);refine wl_buildTag rFz ?_)|((with_reducible refine at_allocE ⟨?_⟩);refine wl_allocE aQ ?_;intro bE wE hE)|((with_reducible refine at_storeE ⟨?_⟩);first|(refine wl_storeE aQ rFz rFz fQ upD sQ ?_;intro wS hS)|(refine wl_storeE (e:=Frm.zeroE) (da:=none) (dn:=0) (dc:=0) aQ rFz rFz rfl upD sQ ?_;intro wS hS))
  |((with_reducible refine at_load ⟨?_⟩);refine wpList_load_mid rFz 24 _ rFz bk (off+9) rFz (bys ((l.drop 9).take 32)) _ (Hrange.out _ (Sat.sb aQ)) Tryz.underlying24 rfl (by rw [Hkb.out];kernel_rfl) ?_)
  |((with_reducible refine at_store ⟨?_⟩);refine wl_storeK (key:=(l.drop 9).take 32) aQ rFz rFz rfl Hkl.out upD ?_;intro wK hK)
  |((with_reducible refine at_slice2 ⟨?_⟩);refine wl_slice2 rFz rFz rFz hsl ?_))
 refine (clone_c hK (Hdat.out _ (hK.sb)) (by rw [List.length_drop,List.length_take];have:=Hl.out;omega)).mono ?_
 rintro ee w3 ⟨v,rfl,hS3,ca,cn,cc,rfl⟩
 have hcn:cn=((l.take N).drop 41).length:=by
  obtain ⟨_,_,_,he,hl',_⟩:=Sat.rd hS3
  cases he
  rw [bys_len,Nat.mul_one]at hl';exact hl'.symm
 subst hcn
 have Hkl2:=Hkl.out
 generalize (l.drop 9).take 32=key at *
 generalize (l.take N).drop 41=data at *
 go_wp2_with (first
  |((with_reducible refine at_store ⟨?_⟩);refine wl_storeD (e:=⟨(tg.toNat:Int),key,[]⟩) (data:=data) aQ rFz rFz Hkl2 upD ?_;intro wD hD)
  |((with_reducible refine at_loadE ⟨?_⟩);refine wl_loadE aQ rFz pkD fQ ?_)|((with_reducible refine at_storeE ⟨?_⟩);first|(refine wl_storeE aQ rFz rFz fQ upD sQ ?_;intro wS hS)|(refine wl_storeE (e:=Frm.zeroE) (da:=none) (dn:=0) (dc:=0) aQ rFz rFz rfl upD sQ ?_;intro wS hS)))
 rw [Hf4.out]
 simp only
 refine ⟨rfl,_,res_entE3 rfl aQ rFz pkD Hkl2,_,rfl,ca,cc,rfl,Sat.sb hS⟩
end
end Go.Proofs.YtlinnpehkfbnkaaGreatDoor
namespace Go.Frm
structure Fnd where
 e:Ent
 at_:Nat
 size:Nat
def scanL:Nat→Bs→Nat→List Fnd×Nat×Int
 |0,_,at_=>([],at_,0)
 |k+1,b,at_=>
  if b=[] then ([],at_,0)
  else if (read b).2.2≠0 then ([],at_,(read b).2.2)
  else (⟨(read b).1,at_,(read b).2.1⟩::(scanL k (b.drop (read b).2.1) (at_+(read b).2.1)).1,(scanL k (b.drop (read b).2.1) (at_+(read b).2.1)).2)
def magicB:Bs:=[72,79,65,82,68,83,69,71]
def scan (b:Bs):List Fnd×Nat×Int:=if b.take 8=magicB then scanL b.length (b.drop 8) 8 else ([],0,4)
end Go.Frm
namespace Go.Proofs.YtlinnpehkfbnkaaGreatDoor
open Go Go.Sl Go.Med Go.MapKept Go.RowKit
section
variable {w0 w:World}{F R:List HProp}{v bv dv x lv av:Value}
theorem rdsl_text {l:Bs} (h:rdsl 1 v (bys l) w):(convert 25 9 v).run Tryz.prog w = .ok (.string ⟨l.toArray⟩) w:=by
 obtain ⟨a,n,c,rfl,hl,hx⟩:=h
 rw [bys_len,Nat.mul_one]at hl
 subst hl
 cases a with
 |none=>
  obtain rfl:l=[]:=by
   cases l with
   |nil=>rfl
   |cons d l=>obtain ⟨b,hb,_⟩:=hx 0 _ rfl;cases hb
  exact Lib.run_convert_nil_bytes (P:=Tryz.prog) w _ _ 5 c Tryz.underlying25 Tryz.underlying5 Tryz.underlying9
 |some ad=>
  refine run_convert_bytes_back (P:=Tryz.prog) w _ _ 5 ad c l Tryz.underlying25 Tryz.underlying5 Tryz.underlying9 (fun j hj=>?_)
  have hy:(bys l)[j]?=some (.int .u8 (l[j]'hj).toNat):=by unfold bys;rw [List.getElem?_map,List.getElem?_eq_getElem hj];rfl
  obtain ⟨b,hb,hc⟩:=hx _ _ hy
  cases hb
  simpa using hc
theorem bequal_c (la lb:Bs) (ha:rdsl 1 av (bys la) w) (hb:rdsl 1 bv (bys lb) w) :
  Calls Tryz.prog 170 #[av,bv] w (Rtn fun v w'=>v = .bool (decide (la=lb))∧w=w'):=by
 have h1:=rdsl_text ha
 have h2:=rdsl_text hb
 have He:=uQ (show ((la.toArray.toList:List UInt8)==lb.toArray.toList)=decide (la=lb) by
  rw [Bool.eq_iff_iff,beq_iff_eq,decide_eq_true_eq])
 clear ha hb
 go_enter Tryz.func170,Tryz.ntmps170
 go_wp2
 go_ret
 rw [← He.out]
 exact ⟨_,rfl,rfl,rfl⟩
theorem hasPrefix_c (l lp:Bs) (a:Option Addr) (n c:Nat) (hn:n≤c) (hc:c≤9223372036854775807) (ha:rdsl 1 (.slice a n c) (bys l) w) (pa:Option Addr) (pn pc:Nat) (hp:rdsl 1 (.slice pa pn pc) (bys lp) w) :
  Calls Tryz.prog 115 #[.slice a n c,.slice pa pn pc] w (Rtn fun v w'=>v = .bool (decide (l.take lp.length=lp))∧w=w'):=by
 have hln:n=l.length:=by
  obtain ⟨_,_,_,he,hl',_⟩:=ha
  cases he
  rw [bys_len,Nat.mul_one]at hl';exact hl'.symm
 have hpn:pn=lp.length:=by
  obtain ⟨_,_,_,he,hl',_⟩:=hp
  cases he
  rw [bys_len,Nat.mul_one]at hl';exact hl'.symm
 subst hln hpn
 by_cases hle:lp.length≤l.length
 ·have h4:=rdsl_cut4 (k:=lp.length) ha
  rw [show min l.length lp.length=lp.length by omega]at h4
  have hq:=bequal_c _ _ h4 hp
  have c1:(lp.length:Int)≤(l.length:Int):=oQ
  have c2:(lp.length:Int)≤(c:Int):=oQ
  have c3:lp.length≤l.length:=hle
  clear h4 ha hp
  go_enter Tryz.func115,Tryz.ntmps115
  go_wp2_with (go_at_call 170;refine hq.mono ?_;rintro e w1 ⟨v,rfl,rfl,rfl⟩)
  go_ret
  exact ⟨_,rfl,rfl,rfl⟩
 ·have c1:¬ lp.length≤l.length:=hle
  have c2:decide ((lp.length:Int)≤(l.length:Int))=false:=decide_eq_false oQ
  have He:=uQ (show decide (l.take lp.length=lp)=false by
   apply decide_eq_false
   intro hh
   have:=congrArg List.length hh
   rw [List.length_take]at this
   omega)
  clear ha hp
  go_enter Tryz.func115,Tryz.ntmps115
  go_wp2
  go_ret
  rw [He.out]
  exact ⟨_,rfl,rfl,rfl⟩
end
end Go.Proofs.YtlinnpehkfbnkaaGreatDoor
namespace Go.Frm
theorem read_ok {b:Bs} (h:(read b).2.2=0):9≤(read b).2.1∧(read b).2.1≤b.length∧(read b).1.key.length=32:=by
 unfold read at *
 dsimp only at *
 split at h
 ·simp at h
 rename_i h9
 rw [if_neg h9]
 split at h
 ·simp at h
 rename_i hf
 rw [if_neg hf]
 split at h
 ·simp at h
 rename_i hl
 rw [if_neg hl]
 split at h
 ·simp at h
 rename_i hc
 rw [if_neg hc]
 have hfit:fits (b.getD 8 0) (num ((b.drop 4).take 4))=true:=by
  cases hh:fits (b.getD 8 0) (num ((b.drop 4).take 4)) with
  |true=>rfl
  |false=>exact absurd hh hf
 have h9':9≤num ((b.drop 4).take 4):=by
  unfold fits at hfit
  split at hfit
  ·have:=of_decide_eq_true hfit;omega
  ·split at hfit
   ·have:=of_decide_eq_true hfit;omega
   ·split at hfit
    ·have:=of_decide_eq_true hfit;omega
    ·cases hfit
 split
 ·rename_i h41
  refine ⟨h9',Nat.not_lt.1 hl,?_⟩
  simp only [List.length_take,List.length_drop]
  omega
 ·exact ⟨h9',Nat.not_lt.1 hl,rfl⟩
theorem read_key (b:Bs):(read b).1.key.length=32:=by
 unfold read
 dsimp only
 split
 ·rfl
 split
 ·rfl
 split
 ·rfl
 split
 ·rfl
 rename_i h9 hf hl hc
 split
 ·rename_i h41
  simp only [List.length_take,List.length_drop]
  omega
 ·rfl
end Go.Frm
namespace Go.Proofs.YtlinnpehkfbnkaaGreatDoor
open Go Go.Sl Go.Med Go.MapKept Go.RowKit
def fndL (f:Frm.Fnd) (dv:Value):List Value:=entL f.e dv++[.int .i64 f.at_,.int .i64 f.size]
def fndA (f:Frm.Fnd) (dv:Value):Array Value:=(fndL f dv).toArray
def fndsL (fs:List (Frm.Fnd×Value)):List Value:=fs.flatMap fun p=>fndL p.1 p.2
def dataF (fs:List (Frm.Fnd×Value)):HProp:=stars (fs.map fun p=>bsl p.2 p.1.e.data)
theorem fndL_len (f:Frm.Fnd) (dv:Value) (hk:f.e.key.length=32):(fndL f dv).length=36:=by unfold fndL;rw [List.length_append,entL_len _ _ hk];rfl
theorem fndA_size (f:Frm.Fnd) (dv:Value) (hk:f.e.key.length=32):(fndA f dv).size=36:=by unfold fndA;rw [List.size_toArray,fndL_len _ _ hk]
theorem fndsL_len {fs:List (Frm.Fnd×Value)} (hk:∀ p∈fs,p.1.e.key.length=32):(fndsL fs).length=36 * fs.length:=by
 unfold fndsL
 induction fs with
 |nil=>rfl
 |cons p fs ih=>
  rw [List.flatMap_cons,List.length_append,ih (fun q hq=>hk q (.tail _ hq)),fndL_len _ _ (hk p (.head _)),List.length_cons];omega
theorem fndsL_app (es fs:List (Frm.Fnd×Value)):fndsL (es++fs)=fndsL es++fndsL fs:=by unfold fndsL;rw [List.flatMap_append]
theorem dataF_snoc (es:List (Frm.Fnd×Value)) (x:Frm.Fnd) (dv:Value):dataF (es++[(x,dv)])=star (bsl dv x.e.data) (dataF es):=by
 unfold dataF
 rw [List.map_append,stars_append,star_comm]
 show star (stars [bsl dv x.e.data]) _=_
 rw [stars_one]
theorem plFnd:placesB Tryz.prog 118=some [(0,34),(34,1),(35,1)]:=by kernel_rfl
def zeroF:Frm.Fnd:=⟨Frm.zeroE,0,0⟩
theorem zFnd:zeroB Tryz.prog 118=some (.agg (fndA zeroF (.slice none 0 0))):=by kernel_rfl
theorem puts3f (cs:Array Value) (hs:cs.size=36) (el:List Value) (u v:Value) (hk:el.length=34):(putsAt (putsAt (putsAt cs 0 el) 34 [u]) 35 [v]).toList=el++[u,v]:=by
 have hcl:cs.toList.length=36:=by simpa using hs
 have e1:(putsAt cs 0 el).toList=el++cs.toList.drop 34:=by
  rw [putsAt_list _ _ _ oQ,List.take_zero,List.nil_append,Nat.zero_add,hk]
 have e2:(putsAt (putsAt cs 0 el) 34 [u]).toList=el++[u]++cs.toList.drop 35:=by
  rw [putsAt_list _ _ _ (by rw [putsAt_size];simp;omega),e1,List.take_append_of_le_length oQ,List.take_of_length_le oQ,List.length_singleton,List.drop_append,hk,List.drop_of_length_le (l:=el) oQ,List.nil_append,List.drop_drop]
 have h3:(el++[u]).length=35:=by simp [hk]
 rw [putsAt_list _ _ _ (by rw [putsAt_size,putsAt_size];simp;omega),e2,List.take_append_of_le_length oQ,List.take_of_length_le oQ,List.length_singleton,List.drop_of_length_le (by rw [List.length_append,h3,List.length_drop];omega)]
 simp
set_option maxRecDepth 20000 in
theorem run_buildFnd (e:Frm.Ent) (hk:e.key.length=32) (da:Option Addr) (dn dc:Nat) (at_ n:Nat) (w:World) :
  (Instr.build 118 #[(0,.agg (entA e (.slice da dn dc))),(1,.int .i64 at_),(2,.int .i64 n)]).run Tryz.prog w = .ok (.agg (fndA ⟨e,at_,n⟩ (.slice da dn dc))) w:=by
 have hz:(fndA zeroF (.slice none 0 0)).size=36:=fndA_size _ _ rfl
 have he:(entA e (.slice da dn dc)).size=34:=entA_size _ _ hk
 have h:=run_build (P:=Tryz.prog) [(0,.agg (entA e (.slice da dn dc))),(1,.int .i64 at_),(2,.int .i64 n)] plFnd zFnd (by
  intro p hp
  simp only [List.mem_cons,List.not_mem_nil,or_false]at hp
  have hzz:(Value.agg (fndA zeroF (.slice none 0 0))).cells.size=36:=hz
  rw [hzz]
  rcases hp with rfl|rfl|rfl
  ·refine ⟨0,?_,?_⟩
   ·show some (0,34)=some (0,(entA e (.slice da dn dc)).size);rw [he]
   ·show 0+(entA e (.slice da dn dc)).size≤36;omega
  ·exact ⟨34,rfl,by show 34+1≤36;omega⟩
  ·exact ⟨35,rfl,by show 35+1≤36;omega⟩) w
 refine h.trans ?_
 congr 2
 apply putsAt_eq
 exact puts3f _ hz _ _ _ (show (entA e (.slice da dn dc)).toList.length=34 by rw [Array.length_toList,he])
section
variable {w0 w:World}{L L' R:List HProp}{b:Nat}{ops:Array Oper}{rest:List Oper}{a:Act}{Q:Exit→Act→World→Prop}
variable {dst:Option Tmp}{t T ty:TypeId}{pos:String}{after:Array Edge}{x y z:Operand}{cs:Array Value}{v v1 v2 v3:Value}{i1 i2 i3:Nat}{P:Program}
theorem wl_build3 (h1:a.eval x=v1) (h2:a.eval y=v2) (h3:a.eval z=v3) (hr:∀ w,(Instr.build ty #[(i1,v1),(i2,v2),(i3,v3)]).run P w = .ok v w) (h:wpList P ops Q rest (a.put dst v) w) :
  wpList P ops Q (⟨dst,.build ty #[(i1,x),(i2,y),(i3,z)],t,pos,after,none⟩::rest) a w:=
 wpList_plain rfl fun _ hK=>by
  unfold Oper.wp execOp
  simp only [List.map_toArray,List.map_cons,List.map_nil,h1,h2,h3,Sem.run_bind,hr,Result.andThen_ok,Sem.run_pure]
  exact hK _ _ h
theorem at_build3 (h:Stop (wpList P ops Q (⟨dst,.build ty #[(i1,x),(i2,y),(i3,z)],t,pos,after,none⟩::rest) a w)):wpList P ops Q (⟨dst,.build ty #[(i1,x),(i2,y),(i3,z)],t,pos,after,none⟩::rest) a w:=h.out
theorem fndA_ones (f:Frm.Fnd) (a:Option Addr) (n c:Nat):(fndA f (.slice a n c)).toList.all (·.oneCell')=true:=by
 unfold fndA fndL
 rw [List.toList_toArray,List.all_append]
 have h1:(entL f.e (.slice a n c)).all (·.oneCell')=true:=by
  have:=entA_one f.e a n c
  unfold entA at this
  rwa [List.toList_toArray]at this
 rw [h1];rfl
end
end Go.Proofs.YtlinnpehkfbnkaaGreatDoor
namespace Go.Rep
open Go.Frm (Bs Fnd)
open Go.Seg (Plc)
open Go.Tab (put)
abbrev Row:=Int×Fnd
def rkey (r:Row):Bs:=r.2.e.key
def rtag (r:Row):Int:=r.2.e.tag
def rplc (r:Row):Plc:=⟨r.1,r.2.at_,r.2.size⟩
structure Abt where
 tag:Int
 place:Plc
 first:Int
def newest:List Row→Bs→Option Row
 |[],_=>none
 |r::l,k=>match newest l k with
  |some x=>some x
  |none=>if rtag r≠2∧rkey r=k then some r else none
def firstPut:List Row→Bs→Option Row
 |[],_=>none
 |r::l,k=>if rtag r=0∧rkey r=k then some r else firstPut l k
def first (l:List Row) (k:Bs):Int:=match firstPut l k with
 |some r=>r.1
 |none=> -1
def ledger (l:List Row) (k:Bs):Option Abt:=(newest l k).map fun r=>⟨rtag r,rplc r,first l k⟩
def first0 (m:Bs→Option Abt) (r:Row):Int:=match m (rkey r) with
 |some a=>a.first
 |none=> -1
def first1 (m:Bs→Option Abt) (r:Row):Int:=if rtag r=0∧first0 m r<0 then r.1 else first0 m r
def takeOne (m:Bs→Option Abt) (r:Row):Bs→Option Abt:=
 if rtag r=2 then m else put m (rkey r) ⟨rtag r,rplc r,first1 m r⟩
theorem newest_snoc (l:List Row) (r:Row) (k:Bs):newest (l++[r]) k=if rtag r≠2∧rkey r=k then some r else newest l k:=by
 induction l with
 |nil=>simp only [List.nil_append,newest]
 |cons x l ih=>
  simp only [List.cons_append,newest,ih]
  split
  ·rename_i h;split at h
   ·rename_i h2;rw [if_pos h2];cases h;rfl
   ·rename_i h2;rw [if_neg h2,h]
  ·rename_i h;split at h
   ·cases h
   ·rename_i h2;rw [if_neg h2,h]
theorem firstPut_snoc (l:List Row) (r:Row) (k:Bs):firstPut (l++[r]) k=match firstPut l k with
  |some x=>some x
  |none=>if rtag r=0∧rkey r=k then some r else none:=by
 induction l with
 |nil=>simp only [List.nil_append,firstPut]
 |cons x l ih=>
  simp only [List.cons_append,firstPut,ih]
  split
  ·rename_i h;simp only
  ·rfl
theorem newest_none {l:List Row}{k:Bs} (h:newest l k=none):firstPut l k=none:=by
 induction l with
 |nil=>rfl
 |cons x l ih=>
  simp only [newest]at h
  split at h
  ·cases h
  ·rename_i h1
   split at h
   ·cases h
   ·rename_i h2
    simp only [firstPut]
    rw [if_neg fun h3=>h2 ⟨by rw [h3.1];decide,h3.2⟩]
    exact ih h1
theorem firstPut_mem {l:List Row}{k:Bs}{r:Row} (h:firstPut l k=some r):r∈l∧rtag r=0∧rkey r=k:=by
 induction l with
 |nil=>cases h
 |cons x l ih=>
  simp only [firstPut]at h
  split at h
  ·cases h;exact ⟨.head _,by assumption⟩
  ·exact ⟨.tail _ (ih h).1,(ih h).2⟩
theorem ledger_snoc (l:List Row) (r:Row) (h0:∀ x∈l,0≤x.1):ledger (l++[r])=takeOne (ledger l) r:=by
 funext k
 unfold takeOne
 by_cases h2:rtag r=2
 ·rw [if_pos h2]
  unfold ledger first
  rw [newest_snoc,if_neg (fun h=>h.1 h2),firstPut_snoc]
  cases firstPut l k with
  |some x=>rfl
  |none=>simp only;rw [if_neg (fun h=>by rw [h2]at h;exact absurd h.1 dCz)]
 ·rw [if_neg h2]
  unfold put
  by_cases hk:k=rkey r
  ·subst hk
   rw [if_pos rfl]
   have e1:∀ k,ledger l k=(newest l k).map fun r=>⟨rtag r,rplc r,first l k⟩:=fun _=>rfl
   have e2:ledger (l++[r]) (rkey r)=some ⟨rtag r,rplc r,first (l++[r]) (rkey r)⟩:=by
    unfold ledger
    rw [newest_snoc,if_pos ⟨h2,rfl⟩,Option.map_some]
   rw [e2]
   congr 2
   unfold first1 first0
   rw [e1]
   unfold first
   rw [firstPut_snoc]
   cases hn:newest l (rkey r) with
   |none=>
    rw [newest_none hn]
    simp only [Option.map_none]
    by_cases ht:rtag r=0
    ·rw [if_pos ⟨ht,trivial⟩,if_pos ⟨ht,by decide⟩]
    ·rw [if_neg (fun h=>ht h.1),if_neg (fun h=>ht h.1)]
   |some x=>
    simp only [Option.map_some]
    cases hf:firstPut l (rkey r) with
    |some y=>
     simp only
     rw [if_neg (fun h=>by have:=h0 y (firstPut_mem hf).1;omega)]
    |none=>
     simp only
     by_cases ht:rtag r=0
     ·rw [if_pos ⟨ht,trivial⟩,if_pos ⟨ht,by decide⟩]
     ·rw [if_neg (fun h=>ht h.1),if_neg (fun h=>ht h.1)]
  ·rw [if_neg hk]
   unfold ledger first
   rw [newest_snoc,if_neg (fun h=>hk h.2.symm),firstPut_snoc]
   cases firstPut l k with
   |some x=>rfl
   |none=>simp only;rw [if_neg (fun h=>hk h.2.symm)]
def counts (a:Abt):Bool:=decide (a.tag=0) || (decide (0≤a.first) && decide (a.first<a.place.seg))
def isNew (l:List Row) (i:Nat):Bool:=match l[i]? with
 |none=>false
 |some r=>decide (rtag r<2) && (l.drop (i+1)).all fun x => !(decide (rtag x<2) && decide (rkey x=rkey r))
def cnt (l:List Row) (i:Nat):Bool:=match l[i]? with
 |none=>false
 |some r => !decide (rtag r=2) && isNew l i && (decide (rtag r=0) || (l.take i).any fun x=>decide (rtag x=0) && decide (rkey x=rkey r) && decide (x.1<r.1))
structure Rows (l:List Row):Prop where
 tag:∀ r∈l,rtag r=0∨rtag r=1∨rtag r=2
 seg:∀ r∈l,0≤r.1
 rise:l.Pairwise fun a b=>a.1≤b.1
theorem new_none {l:List Row}{k:Bs} (ht:∀ r∈l,rtag r=0∨rtag r=1∨rtag r=2):newest l k=none↔(l.all fun x => !(decide (rtag x<2) && decide (rkey x=k)))=true:=by
 induction l with
 |nil=>exact ⟨fun _=>rfl,fun _=>rfl⟩
 |cons y l ih=>
  rw [List.all_cons,Bool.and_eq_true,← ih (fun r h=>ht r (.tail _ h))]
  have hy:=ht y (.head _)
  simp only [newest]
  cases hn:newest l k with
  |some x=>simp
  |none=>
   simp only [and_true]
   by_cases hc:rtag y≠2∧rkey y=k
   ·rw [if_pos hc]
    have:rtag y<2:=oQ
    simp [this,hc.2]
   ·rw [if_neg hc]
    simp only [true_iff,Bool.not_eq_true',Bool.and_eq_false_iff,decide_eq_false_iff_not]
    by_cases h2:rtag y<2
    ·exact .inr fun h=>hc ⟨by omega,h⟩
    ·exact .inl h2
theorem newest_at:∀ {l:List Row}{i:Nat}{r:Row},(∀ r∈l,rtag r=0∨rtag r=1∨rtag r=2)→l[i]?=some r→isNew l i=true→newest l (rkey r)=some r
 |[],_,_,_,hi,_=>by simp at hi
 |x::l,0,r,ht,hi,hn=>by
  obtain rfl:x=r:=by simpa using hi
  unfold isNew at hn
  rw [hi]at hn
  simp only [Bool.and_eq_true,decide_eq_true_eq]at hn
  have h2:newest l (rkey x)=none:=(new_none fun r h=>ht r (.tail _ h)).2 hn.2
  have:=hn.1
  simp only [newest,h2]
  rw [if_pos ⟨by omega,trivial⟩]
 |x::l,i+1,r,ht,hi,hn=>by
  have hi':l[i]?=some r:=by simpa using hi
  have hn':isNew l i=true:=by
   unfold isNew at hn ⊢
   rw [hi]at hn;rw [hi']
   exact hn
  simp only [newest,newest_at (fun r h=>ht r (.tail _ h)) hi' hn']
theorem newest_is:∀ {l:List Row}{k:Bs}{r:Row},(∀ r∈l,rtag r=0∨rtag r=1∨rtag r=2)→newest l k=some r→∃ i,l[i]?=some r∧isNew l i=true∧rkey r=k∧rtag r≠2
 |[],_,_,_,h=>by cases h
 |x::l,k,r,ht,h=>by
  simp only [newest]at h
  cases hn:newest l k with
  |some y=>
   rw [hn]at h
   obtain rfl:y=r:=by simpa using h
   obtain ⟨i,a,b,c,d⟩:=newest_is (fun r h=>ht r (.tail _ h)) hn
   refine ⟨i+1,by simpa using a,?_,c,d⟩
   unfold isNew at b ⊢
   rw [a]at b
   rw [show (x::l)[i+1]?=some y by simpa using a]
   exact b
  |none=>
   rw [hn]at h
   simp only at h
   split at h
   ·rename_i hc
    obtain rfl:x=r:=by simpa using h
    refine ⟨0,rfl,?_,hc.2,hc.1⟩
    have hx:=ht x (.head _)
    unfold isNew
    simp only [List.getElem?_cons_zero,Nat.zero_add,List.drop_one,List.tail_cons,Bool.and_eq_true,decide_eq_true_eq]
    refine ⟨by omega,?_⟩
    rw [← new_none fun r h=>ht r (.tail _ h),hc.2];exact hn
   ·cases h
theorem firstPut_le:∀ {l:List Row}{k:Bs}{r x:Row},l.Pairwise (fun a b=>a.1≤b.1)→firstPut l k=some r→x∈l→rtag x=0→rkey x=k→r.1≤x.1
 |[],_,_,_,_,h,_,_,_=>by cases h
 |y::l,k,r,x,hp,h,hx,h0,hk=>by
  obtain ⟨p1,p2⟩:=List.pairwise_cons.1 hp
  simp only [firstPut]at h
  split at h
  ·obtain rfl:y=r:=by simpa using h
   rcases List.mem_cons.1 hx with rfl|hx
   ·exact Int.le_refl _
   ·exact p1 x hx
  ·rename_i hc
   rcases List.mem_cons.1 hx with rfl|hx
   ·exact absurd ⟨h0,hk⟩ hc
   ·exact firstPut_le p2 h hx h0 hk
theorem firstPut_none {l:List Row}{k:Bs} (h:firstPut l k=none):∀ x∈l,¬ (rtag x=0∧rkey x=k):=by
 induction l with
 |nil=>intro x hx;cases hx
 |cons y l ih=>
  simp only [firstPut]at h
  split at h
  ·cases h
  ·rename_i hc
   intro x hx
   rcases List.mem_cons.1 hx with rfl|hx
   ·exact hc
   ·exact ih h x hx
theorem cnt_eq {l:List Row}{i:Nat}{r:Row} (hl:Rows l) (hi:l[i]?=some r) (hn:isNew l i=true):∃ a,ledger l (rkey r)=some a∧a.tag=rtag r∧a.place=rplc r∧counts a=cnt l i:=by
 have h1:=newest_at hl.tag hi hn
 refine ⟨⟨rtag r,rplc r,first l (rkey r)⟩,by unfold ledger;rw [h1];rfl,rfl,rfl,?_⟩
 have hmem:=List.mem_of_getElem? hi
 have h2:rtag r≠2:=by
  unfold isNew at hn
  rw [hi]at hn
  simp only [Bool.and_eq_true,decide_eq_true_eq]at hn
  have:=hn.1
  omega
 unfold cnt
 rw [hi]
 simp only [hn,h2,decide_false,Bool.not_false,Bool.true_and]
 unfold counts
 simp only
 by_cases h0:rtag r=0
 ·simp [h0]
 ·simp only [h0,decide_false,Bool.false_or]
  rw [Bool.eq_iff_iff]
  simp only [Bool.and_eq_true,decide_eq_true_eq,List.any_eq_true]
  unfold first rplc
  simp only
  cases hf:firstPut l (rkey r) with
  |none=>
   simp only
   constructor
   ·intro h;omega
   ·rintro ⟨x,hx,⟨h3,h4⟩,_⟩
    exact absurd ⟨h3,h4⟩ (firstPut_none hf x (List.mem_of_mem_take hx))
  |some y=>
   obtain ⟨m1,m2,m3⟩:=firstPut_mem hf
   simp only
   constructor
   ·rintro ⟨_,h5⟩
    obtain ⟨j,hj,he⟩:=List.getElem_of_mem m1
    have hij:j<i:=by
     rcases Nat.lt_trichotomy j i with q|q|q
     ·exact q
     ·subst q
      rw [List.getElem?_eq_getElem hj,he]at hi;cases hi
      exact absurd m2 h0
     ·obtain ⟨hi',he'⟩:=List.getElem?_eq_some_iff.1 hi
      have:=List.pairwise_iff_getElem.1 hl.rise i j hi' hj q
      rw [he,he']at this;omega
    refine ⟨y,?_,⟨m2,m3⟩,h5⟩
    rw [List.mem_take_iff_getElem]
    exact ⟨j,by omega,he⟩
   ·rintro ⟨x,hx,⟨h3,h4⟩,h5⟩
    have:=firstPut_le hl.rise hf (List.mem_of_mem_take hx) h3 h4
    exact ⟨hl.seg y m1,by omega⟩
theorem cnt_new {l:List Row}{i:Nat} (h:cnt l i=true):isNew l i=true:=by
 unfold cnt at h
 split at h
 ·cases h
 ·simp only [Bool.and_eq_true]at h
  exact h.1.2
end Go.Rep
namespace Go.Proofs.YtlinnpehkfbnkaaGreatDoor
open Go Go.Sl Go.Med Go.MapKept Go.RowKit
def putL (xs:List Value) (i:Nat) (vs:List Value):List Value:=xs.take i++(vs++xs.drop (i+vs.length))
theorem putL_app (A B vs:List Value) (i:Nat):putL (A++B) (A.length+i) vs=A++putL B i vs:=by
 unfold putL
 rw [List.take_length_add_append,Nat.add_assoc,List.drop_length_add_append,List.append_assoc]
theorem putL_len {xs vs:List Value}{i:Nat} (h:i+vs.length≤xs.length):(putL xs i vs).length=xs.length:=by
 unfold putL
 simp only [List.length_append,List.length_take,List.length_drop];omega
section
variable {P:Program}{w0 w:World}{L L':List HProp}{b o:Nat}{ops:Array Oper}{rest:List Oper}{a:Act}{Q:Exit→Act→World→Prop}{dst:Option Tmp}{t ty T sz n c:Nat}{pos:String}{after:Array Edge}{x y:Operand}{v:Value}{xs vs:List Value}{K:Act→World→Prop}{E:Prop}
theorem putsAt_take {cs:Array Value}{i m:Nat} (hx:cs.toList.take m=xs) (hm:m≤cs.size) (hi:i+vs.length≤m):(putsAt cs i vs).toList.take m=putL xs i vs:=by
 subst hx
 rw [putsAt_list _ _ _ oQ]
 have hl:(cs.toList.take i++vs).length=i+vs.length:=by rw [List.length_append,List.length_take,Array.length_toList];omega
 unfold putL
 rw [List.take_append,hl,List.take_of_length_le oQ,List.take_take,Nat.min_eq_left oQ,List.drop_take,List.append_assoc]
theorem eff_storeSN (i:Nat) (hs:Sat w0 w L) (hx:a.eval x = .pointer (some ⟨b,i,none⟩)) (hy:a.eval y=v) (hv:v.cells.toList=vs) (u:Upd (osl T sz (.slice (some ⟨b,0,none⟩) n c) xs) (osl T sz (.slice (some ⟨b,0,none⟩) n c) (putL xs i vs)) L L')
  (hi:i+vs.length≤xs.length) (hty:(P.info? ty).map (·.size)=some vs.length) (h1:vs.all (·.oneCell')=true)
  (hK:∀ w',Sat w0 w' L'→K (a.put dst undef) w') :
  if Region.wanted ⟨dst,.store ty x y,t,pos,after,none⟩ (yielded ops a.tmps)=true then Oper.wp P ⟨dst,.store ty x y,t,pos,after,none⟩ a w K Q else E:=by
 have hvs:v.cells.size=vs.length:=by rw [← hv,Array.length_toList]
 obtain ⟨R',h2,h3⟩:=u
 have h:=hs.perm h2
 rcases Sat.osl_cases h with ⟨he,_⟩|⟨g',n',cap',cs,he,k1,k2,k3,k4,k5,k6⟩
 ·cases he
 ·cases he
  have hlen:xs.length≤cs.size:=by rw [← k5,List.length_take,Array.length_toList];omega
  have hm:n * sz≤cs.size:=Nat.le_trans (Nat.mul_le_mul_right _ k2) k3
  refine eff_store k6 hx hy (cs':=putsAt cs i vs) (by rw [hv]) upd0 (by rw [hvs];omega) (by rw [hvs];exact hty) (by rw [hv];exact h1) fun w' hS=>hK w' (Sat.perm ?_ h3.symm)
  refine Sat.osl_of_pt hS (by rw [putL_len hi];exact k1) k2 (by rw [putsAt_size];exact k3) k4 ?_
  exact putsAt_take k5 hm (by rw [← k1];exact hi)
end
section
variable {α:Type}{f:α→List Value}{k:Nat}
theorem rows_len:∀ {l:List α},(∀ x∈l,(f x).length=k)→(l.flatMap f).length=k * l.length
 |[],_=>rfl
 |x::l,h=>by rw [List.flatMap_cons,List.length_append,h x (.head _),rows_len fun y hy=>h y (.tail _ hy),List.length_cons,Nat.mul_succ];omega
theorem rows_at:∀ {l:List α}{i:Nat}{x:α}{j:Nat}{v:Value},(∀ x∈l,(f x).length=k)→l[i]?=some x→(f x)[j]?=some v→(l.flatMap f)[i * k+j]?=some v
 |[],_,_,_,_,_,h,_=>by cases h
 |y::l,0,x,j,v,hk,h,hj=>by
  obtain rfl:y=x:=by simpa using h
  rw [List.flatMap_cons,Nat.zero_mul,Nat.zero_add,List.getElem?_append_left (List.getElem?_eq_some_iff.1 hj).1];exact hj
 |y::l,i+1,x,j,v,hk,h,hj=>by
  have h0:=hk y (.head _)
  rw [List.flatMap_cons,Nat.succ_mul,List.getElem?_append_right oQ,h0,show i * k+k+j - k=i * k+j by omega]
  exact rows_at (fun z hz=>hk z (.tail _ hz)) (by simpa using h) hj
theorem rows_set:∀ {l:List α}{i:Nat}{x:α},(∀ x∈l,(f x).length=k)→(f x).length=k→i<l.length→(l.set i x).flatMap f=putL (l.flatMap f) (i * k) (f x)
 |[],_,_,_,_,h=>by simp at h
 |y::l,0,x,hk,hx,h=>by
  have h0:=hk y (.head _)
  rw [List.set_cons_zero,List.flatMap_cons,List.flatMap_cons]
  unfold putL
  rw [Nat.zero_mul,List.take_zero,List.nil_append,Nat.zero_add,hx,← h0,List.drop_left]
 |y::l,i+1,x,hk,hx,h=>by
  have h0:=hk y (.head _)
  rw [List.set_cons_succ,List.flatMap_cons,List.flatMap_cons,rows_set (fun z hz=>hk z (.tail _ hz)) hx (by simpa using h),Nat.succ_mul,Nat.add_comm (i * k) k,← h0,putL_app]
theorem rows_rep (n:Nat) (x:α):(List.replicate n x).flatMap f=(List.replicate n (f x)).flatten:=by
 induction n with
 |zero=>rfl
 |succ n ih=>rw [List.replicate_succ,List.flatMap_cons,ih,List.replicate_succ,List.flatten_cons]
end
section
variable {w0 w:World}{F R:List HProp}{α:Type}{f:α→List Value}{k:Nat}{T:TypeId}{v:Value}
theorem osl_row {l:List α}{i:Nat}{x:α} (hk:∀ x∈l,(f x).length=k) (h:rdsl k v (l.flatMap f) w) (hi:l[i]?=some x) (h0:0<k) :
  ∃ bk off c,v = .slice (some ⟨bk,off,none⟩) l.length c∧∀ j y,(f x)[j]?=some y→w.cell? ⟨bk,off+i * k+j,none⟩=some y:=by
 obtain ⟨a,n,c,rfl,hl,hx⟩:=id h
 rw [rows_len hk]at hl
 have hfx:=hk x (List.mem_of_getElem? hi)
 obtain rfl:n=l.length:=by
  rw [Nat.mul_comm]at hl
  exact (Nat.eq_of_mul_eq_mul_right h0 hl).symm
 obtain ⟨y0,hy0⟩:∃ y,(f x)[0]?=some y:=⟨_,List.getElem?_eq_getElem oQ⟩
 have h1:=rows_at hk hi hy0
 obtain ⟨bk,off,rfl,hc⟩:=rdsl_cells h h1
 exact ⟨bk,off,c,rfl,fun j y hj=>by rw [Nat.add_assoc];exact hc _ _ (rows_at hk hi hj)⟩
theorem osl_rows {l:List α} (hk:∀ x∈l,(f x).length=k) (h:rdsl k v (l.flatMap f) w) (h0:0<k):∃ a c,v = .slice a l.length c:=by
 obtain ⟨a,n,c,rfl,hl,hx⟩:=id h
 rw [rows_len hk,Nat.mul_comm]at hl
 exact ⟨a,c,by rw [Nat.eq_of_mul_eq_mul_right h0 hl]⟩
end
theorem and_mask (x j:Nat) (hx:x<9223372036854775808) (hj:j<63):bits .and .i64 (x:Int) ((2^j - 1:Nat):Int)=((x%2^j:Nat):Int):=by
 have h2:2^j≤2^62:=Nat.pow_le_pow_right dCz oQ
 have h3:(2:Nat)^62=4611686018427387904:=by decide
 have h4:0<2^j:=Nat.two_pow_pos j
 have hm:(BitVec.ofInt 64 ((2^j - 1:Nat):Int)).toNat=2^j - 1:=by
  rw [BitVec.toNat_ofInt]
  have:((2^64:Nat):Int)=18446744073709551616:=by decide
  rw [this]
  omega
 have hn:(BitVec.ofInt 64 (x:Int)).toNat=x:=by
  rw [BitVec.toNat_ofInt]
  have:((2^64:Nat):Int)=18446744073709551616:=by decide
  rw [this]
  omega
 show IntKind.i64.wrap ((BitVec.ofInt 64 (x:Int) &&& BitVec.ofInt 64 ((2^j - 1:Nat):Int)).toNat:Nat)=_
 rw [BitVec.toNat_and,hm,hn,Nat.and_two_pow_sub_one_eq_mod,IntKind.wrap_i64]
 have:=Nat.mod_lt x h4
 omega
theorem or_num32 (l:Bs) (c:UInt8) (k:Nat) (hl:l.length=k) (hk:k<4):bits .or .u32 ((Frm.num l:Nat):Int) ((c.toNat:Int) * ((256^k:Nat):Int))=((Frm.num (l++[c]):Nat):Int):=by
 subst hl
 have h1:=Frm.num_lt l
 have h2:=c.toNat_lt
 have h3:256^l.length≤256^3:=Nat.pow_le_pow_right dCz oQ
 have h4:c.toNat * 256^l.length≤255 * 256^3:=Nat.mul_le_mul oQ h3
 have h5:(256:Nat)^3=16777216:=by decide
 have e:(c.toNat:Int) * ((256^l.length:Nat):Int)=((c.toNat * 256^l.length:Nat):Int):=by rw [Int.natCast_mul]
 rw [e,u32_or_nat _ _ oQ oQ,Frm.num_snoc]
 congr 1
 have hp:(256:Nat)^l.length=2^(8 * l.length):=by rw [Nat.pow_mul]
 rw [hp]at h1 ⊢
 have:=Nat.two_pow_add_eq_or_of_lt h1 c.toNat
 rw [Nat.or_comm,Nat.mul_comm c.toNat,← this,Nat.add_comm]
section
variable {w0 w:World}{F R:List HProp}
set_option maxRecDepth 20000 in
theorem home_c (k:Bs) (hk:k.length=32) (j:Nat) (hj:j<40) (h:Sat w0 w F) :
  Calls Tryz.prog 190 #[.agg (bys k).toArray,.int .i64 (2^j:Nat)] w (Rtn fun v w'=>v = .int .i64 (Tab.home k (2^j):Nat)∧Sat w0 w' F):=by
 obtain ⟨c0,c1,c2,c3,t,rfl⟩:∃ c0 c1 c2 c3 t,k=c0::c1::c2::c3::t:=by
  match k,hk with
  |c0::c1::c2::c3::t,_=>exact ⟨c0,c1,c2,c3,t,rfl⟩
 have Hh:=uQ (show Tab.home (c0::c1::c2::c3::t) (2^j)=Frm.num [c0,c1,c2,c3]%2^j from rfl)
 have hB:=h.alloc (.cells (bys (c0::c1::c2::c3::t)).toArray 24)
 have e0:(w.alloc (.cells (bys (c0::c1::c2::c3::t)).toArray 24)).cell? ⟨w.heap.size,0,none⟩=some (.int .u8 c0.toNat):=hB.cellAt 0 _ rfl
 have e1:(w.alloc (.cells (bys (c0::c1::c2::c3::t)).toArray 24)).cell? ⟨w.heap.size,1,none⟩=some (.int .u8 c1.toNat):=hB.cellAt 1 _ rfl
 have e2:(w.alloc (.cells (bys (c0::c1::c2::c3::t)).toArray 24)).cell? ⟨w.heap.size,2,none⟩=some (.int .u8 c2.toNat):=hB.cellAt 2 _ rfl
 have e3:(w.alloc (.cells (bys (c0::c1::c2::c3::t)).toArray 24)).cell? ⟨w.heap.size,3,none⟩=some (.int .u8 c3.toNat):=hB.cellAt 3 _ rfl
 have b0:=c0.toNat_lt;have b1:=c1.toNat_lt;have b2:=c2.toNat_lt;have b3:=c3.toNat_lt
 have q1:bits .or .u32 (c0.toNat:Int) ((c1.toNat:Int) * 256)=((Frm.num [c0,c1]:Nat):Int):=by
  have:=or_num32 [c0] c1 1 rfl dCz
  simpa [Frm.num] using this
 have q2:bits .or .u32 ((Frm.num [c0,c1]:Nat):Int) ((c2.toNat:Int) * 65536)=((Frm.num [c0,c1,c2]:Nat):Int):=or_num32 [c0,c1] c2 2 rfl dCz
 have q3:bits .or .u32 ((Frm.num [c0,c1,c2]:Nat):Int) ((c3.toNat:Int) * 16777216)=((Frm.num [c0,c1,c2,c3]:Nat):Int):=or_num32 [c0,c1,c2] c3 3 rfl dCz
 have hn:=Frm.num_lt [c0,c1,c2,c3]
 rw [show [c0,c1,c2,c3].length=4 from rfl,show (256:Nat)^4=4294967296 by decide]at hn
 have hp:(2:Nat)^j≤2^40:=Nat.pow_le_pow_right dCz oQ
 have hp1:(2:Nat)^40=1099511627776:=by decide
 have hp0:0<2^j:=Nat.two_pow_pos j
 have q4:=and_mask (Frm.num [c0,c1,c2,c3]) j oQ oQ
 generalize Frm.num [c0,c1,c2,c3]=N at *
 generalize hC:2^j=C at *
 have hw1:IntKind.i64.wrap ((C:Int) - 1)=((C - 1:Nat):Int):=by rw [IntKind.wrap_i64];omega
 have hw2:IntKind.i64.wrap (N:Int)=(N:Int):=IntWalk.i64_in _ oQ
 have hm2:N%C<C:=Nat.mod_lt _ hp0
 clear h hk hC hp hp1
 go_enter Tryz.func190,Tryz.ntmps190
 go_wp2_with fail
 go_ret
 refine ⟨_,rfl,?_,hB.drop⟩
 rw [Hh.out,Int.natCast_emod];rfl
end
section
variable {w0 w:World}{L L' R F:List HProp}{b o:Nat}{ops:Array Oper}{rest:List Oper}{a:Act}{Q:Exit→Act→World→Prop}
variable {dst:Option Tmp}{t T ty:TypeId}{pos:String}{after:Array Edge}{x y:Operand}{cs:Array Value}{v:Value}{P:Program}
theorem wl_loadW (ks:List Value) (hx:a.eval x = .pointer (some ⟨b,o,none⟩)) (hc:∀ j v,ks[j]?=some v→w.cell? ⟨b,o+j,none⟩=some v)
  {d:TypeDesc} (hu:P.underlying ty=some d) (hd:d.isRow=true) (hi:(P.info? ty).map (·.size)=some ks.length)
  (h:wpList P ops Q rest (a.put dst (.agg ks.toArray)) w):wpList P ops Q (⟨dst,.load ty x,t,pos,after,none⟩::rest) a w:=
 wpList_load_mid rfl ty x rfl b o hx ks d hc hu hd hi h
theorem wl_storeA (ks:Array Value) (hs:Sat w0 w L) (hx:a.eval x = .pointer (some ⟨b,0,none⟩)) (hy:a.eval y = .agg ks) (hsz:ks.size=cs.size) (u:Upd (pt b (.cells cs T (0,0))) (pt b (.cells ks T (0,0))) L L')
  (hi:(P.info? ty).map (·.size)=some ks.size) (h1:ks.toList.all (·.oneCell')=true)
  (hK:∀ w',Sat w0 w' L'→wpList P ops Q rest (a.put dst undef) w'):wpList P ops Q (⟨dst,.store ty x y,t,pos,after,none⟩::rest) a w:=
 wl_store hs hx hy (putsAt_eq (by
  show (putsAt cs 0 ks.toList).toList=_
  rw [putsAt_list _ _ _ (by rw [Array.length_toList];omega),List.take_zero,List.nil_append,Nat.zero_add,List.drop_of_length_le (by rw [Array.length_toList,Array.length_toList];omega),List.append_nil])) u (by show 0+ks.size≤cs.size;omega) hi h1 hK
end
section
variable {w0 w:World}{L L' R F:List HProp}{b:Nat}{ops:Array Oper}{rest:List Oper}{a:Act}{Q:Exit→Act→World→Prop}
variable {dst:Option Tmp}{t T:TypeId}{pos:String}{after:Array Edge}{x y:Operand}{cs:Array Value}{v:Value}{e:Frm.Ent}{da:Option Addr}{dn dc:Nat}
theorem wl_buildE (hs:Sat w0 w L) (hy:a.eval x = .agg (entA e (.slice da dn dc))) (hk:e.key.length=32)
  (hK:∀ b w',Sat w0 w' (pt b (.cells (entA e (.slice da dn dc)) 27 (0,0))::L)→wpList Tryz.prog ops Q rest (a.put dst (.slice (some ⟨b,0,none⟩) 1 1)) w') :
  wpList Tryz.prog ops Q (⟨dst,.buildSlice 33 1 #[(0,x)],t,pos,after,none⟩::rest) a w:=
 wl_build1 (e:=27) (sz:=34) (by':=64) kRz hs hy rfl (entA_size _ _ hk) dCz hK
theorem at_buildE (h:Stop (wpList Tryz.prog ops Q (⟨dst,.buildSlice 33 1 #[(0,x)],t,pos,after,none⟩::rest) a w)):wpList Tryz.prog ops Q (⟨dst,.buildSlice 33 1 #[(0,x)],t,pos,after,none⟩::rest) a w:=h.out
theorem wl_loadEs {o:Nat} (hs:Sat w0 w L) (hx:a.eval x = .pointer (some ⟨b,o,none⟩)) (p:Pick (pt b (.cells cs T (0,0))) L R) (hk:e.key.length=32) (hv:∀ j v,(entL e (.slice da dn dc))[j]?=some v→cs[o+j]?=some v)
  (h:wpList Tryz.prog ops Q rest (a.put dst (.agg (entA e (.slice da dn dc)))) w):wpList Tryz.prog ops Q (⟨dst,.load 27 x,t,pos,after,none⟩::rest) a w:=
 wl_loadN (entL e (.slice da dn dc)) hs hx p hv Tryz.underlying27 rfl (by rw [entL_len e _ hk];exact infoEntSize) h
theorem entsL_one (e:Frm.Ent) (dv:Value):entsL [(e,dv)]=(entA e dv).toList:=by unfold entsL entA;simp
theorem ro_one (h:e.key.length=32):Ro w0 (pt b (.cells (entA e (.slice da dn dc)) T (0,0))::F) (rdsl 34 (.slice (some ⟨b,0,none⟩) 1 1) (entsL [(e,.slice da dn dc)])):=fun w hw=>by
 rw [entsL_one]
 exact ⟨_,1,1,rfl,by rw [Array.length_toList,entA_size _ _ h],fun j y hj=>⟨_,rfl,by rw [add_zero_lit];exact hw.cellAt j y (by simpa using hj)⟩⟩
theorem few_one {fs:List (Frm.Ent×Value)}{n long:Nat} (h:fs.map (·.1)=Frm.few [e] (n+1) long):∃ dv,fs=[(Frm.cutE long e,dv)]:=by
 have h1:fs.map (·.1)=[Frm.cutE long e]:=by rw [h];simp [Frm.few]
 cases fs with
 |nil=>cases h1
 |cons f fs=>
  cases fs with
  |nil=>
   obtain ⟨x,dv⟩:=f
   simp only [List.map_cons,List.map_nil,List.cons.injEq,and_true]at h1
   exact ⟨dv,by rw [h1]⟩
  |cons g fs=>simp at h1
theorem few_open {dv v:Value} (hk:e.key.length=32) (h:Sat w0 w (osl 27 34 v (entsL [(e,dv)])::dataS [(e,dv)]::F)) :
  ∃ b c cs da dc,v = .slice (some ⟨b,0,none⟩) 1 c∧dv = .slice da e.data.length dc∧(∀ j y,(entL e dv)[j]?=some y→cs[0+j]?=some y)∧Sat w0 w (pt b (.cells cs 27 (0,0))::bsl dv e.data::F):=by
 have e1:dataS [(e,dv)]=bsl dv e.data:=by unfold dataS;exact stars_one _
 rw [e1]at h
 obtain ⟨da,dn,dc,rfl,hdn,_⟩:=Sat.rd h.pick1
 rw [bys_len,Nat.mul_one]at hdn
 subst hdn
 rcases h.osl_cases with ⟨rfl,hx,hF⟩|⟨b,n',cap,cs,rfl,hll,hn',hc,hcm,htk,hp⟩
 ·rw [entsL_one]at hx
  have:=congrArg List.length hx
  rw [Array.length_toList,entA_size _ _ hk]at this
  cases this
 ·rw [entsL_one,Array.length_toList,entA_size _ _ hk]at hll
  obtain rfl:n'=1:=by omega
  refine ⟨b,cap,cs,da,dc,rfl,rfl,fun j y hj=>?_,hp⟩
  rw [Nat.zero_add]
  refine take_get htk ?_
  rw [entsL_one]
  unfold entA
  exact hj
end
abbrev plcA (q:Seg.Plc):Value:= .agg #[.int .i64 q.seg,.int .i64 q.at_,.int .i64 q.size]
theorem zPlace:zeroB Tryz.prog 54=some (.agg #[.int .i64 0,.int .i64 0,.int .i64 0]):=by kernel_rfl
structure SegBlk (l:List (Int×Int)) (n cap:Nat) (cs:Array Value):Prop where
 len:l.length=n+1
 le:n+1≤cap
 size:cap * 2≤cs.size
 max:cap≤maxLen
 take:cs.toList.take ((n+1) * 2)=segw l
theorem segw_set (l:List (Int×Int)) (s:Int×Int) (z:Int):(segw (l++[s])).set (l.length * 2+1) (.int .i64 z)=segw (l++[(s.1,z)]):=by
 rw [segw_app,segw_app]
 rw [List.set_append_right _ _ (by rw [segw_len];omega),segw_len,show l.length * 2+1 - 2 * l.length=1 by omega]
 rfl
theorem set_take {α:Type} (l:List α) (k i:Nat) (x:α) (h:i<k):(l.set i x).take k=(l.take k).set i x:=by
 rw [List.take_set]
section
variable {w0 w:World}{F R:List HProp}{v bv dv x lv:Value}{q p m K:Nat}{L:Seg.Log}{M:Med}{s:Int×Int}
theorem seg_block (hl:L.l.getLast?=some s) (h:Sat w0 w (LogRaw p m L lv++F)) :
  ∃ bk n cap cs,lv = .slice (some ⟨bk,0,none⟩) (n+1) cap∧SegBlk L.l n cap cs∧cs[n * 2]?=some (.int .i64 s.1)∧cs[n * 2+1]?=some (.int .i64 s.2) ∧
   Sat w0 w (logPt p m L (.slice (some ⟨bk,0,none⟩) (n+1) cap)::pt bk (.cells cs 135 (0,0))::F):=by
 rw [List.getLast?_eq_getElem?]at hl
 have hlt:=(List.getElem?_eq_some_iff.1 hl).1
 obtain ⟨n,hn⟩:∃ n,L.l.length=n+1:=⟨L.l.length - 1,by omega⟩
 rw [hn,Nat.add_sub_cancel]at hl
 obtain ⟨h1,h2⟩:=segw_at _ _ _ hl
 have hS:Sat w0 w (osl 135 2 lv (segw L.l)::logPt p m L lv::F):=h.pick1
 rcases hS.osl_cases with ⟨rfl,hx,_⟩|⟨b,n',cap,cs,rfl,hll,hn',hc,hcm,htk,hp⟩
 ·rw [hx]at h1;simp at h1
 ·rw [segw_len,hn]at hll
  obtain rfl:n'=n+1:=by omega
  refine ⟨b,n,cap,cs,rfl,⟨hn,hn',hc,hcm,htk⟩,?_,?_,hp.pick1⟩
  ·rw [Nat.mul_comm];exact take_get htk h1
  ·rw [Nat.mul_comm];exact take_get htk h2
theorem seg_keep {bk n cap:Nat}{cs:Array Value} (hb:SegBlk L.l n cap cs) (h:Sat w0 w (pt bk (.cells cs 135 (0,0))::R)) :
  Sat w0 w (osl 135 2 (.slice (some ⟨bk,0,none⟩) (n+1) cap) (segw L.l)::R):=
 Sat.osl_of_pt h (by rw [segw_len,hb.len];omega) hb.le hb.size hb.max hb.take
theorem seg_close {bk n cap:Nat}{cs:Array Value} (hl:L.l.getLast?=some s) (hb:SegBlk L.l n cap cs) (z:Int)
  (h:Sat w0 w (pt bk (.cells (putsAt cs (n * 2+1) [.int .i64 z]) 135 (0,0))::R)) :
  Sat w0 w (osl 135 2 (.slice (some ⟨bk,0,none⟩) (n+1) cap) (segw (L.l.dropLast++[(s.1,z)]))::R):=by
 have e:=Seg.last_split hl
 have hlen:=Seg.last_len hl
 have hn:=hb.len
 refine Sat.osl_of_pt h ?_ hb.le ?_ hb.max ?_
 ·rw [segw_len,List.length_append,List.length_singleton];omega
 ·rw [putsAt_size];exact hb.size
 ·simp only [putsAt,Array.toList_setIfInBounds]
  rw [set_take _ _ _ _ oQ,hb.take,e,List.dropLast_append_cons,show n=L.l.dropLast.length by omega]
  simp only [List.dropLast_singleton,List.append_nil]
  exact segw_set _ _ _
set_option maxRecDepth 20000 in
theorem grow_c (hl:L.l.getLast?=some s) (hs:0≤s.2∧s.2≤33554432) (hM:M.Ok K) (hKK:K≤1099511627776) (hlen:L.l.length≤1048576) (b:Bs) (hbl:b.length≤1073741824) (hr:Ro w0 F (rdsl 1 bv (bys b)))
  (h:Sat w0 w (LogRep p m L::MedRep m M::F)) :
  Calls Tryz.prog 84 #[ptr p,bv] w (Rtn fun v w'=>v = .tuple #[plcA (L.grow M b).2.1,errno (L.grow M b).2.2] ∧
   Sat w0 w' (LogRep p m (L.grow M b).1.1::MedRep m (L.grow M b).1.2::F)):=by
 obtain ⟨lv,hR⟩:=LogRep.open h
 clear h
 obtain ⟨bk,n,cap,cs,rfl,hb,c0,c1,hS⟩:=seg_block hl hR
 clear hR
 obtain ⟨ba,bn,bc,rfl,hbn⟩:=ro_len hr (A:=emp) (Sat.emp.2 (hS.sel 3 [] rfl rfl))
 subst hbn
 have Hg:=uQ (show L.grow M b=if (M.append (Seg.name s.1) b).2=0 then (({ L with l:=L.l.dropLast++[(s.1,s.2+(b.length:Int))] },(M.append (Seg.name s.1) b).1),⟨s.1,s.2,b.length⟩,0)
  else ((L,(M.append (Seg.name s.1) b).1),Seg.Plc.zero,(M.append (Seg.name s.1) b).2) by unfold Seg.Log.grow;rw [hl])
 have hn:=hb.len
 have Hb:=uQ hb;have Hr:=uQ hr;have Hl:=uQ hl;have Hs:=uQ hs;have Hc0:=uQ c0;have Hc1:=uQ c1;have Hbl:=uQ hbl
 have hn0:(n:Int)<(n:Int)+1:=oQ
 have hwn:IntKind.i64.wrap (n:Int)=(n:Int):=by rw [IntKind.wrap_i64];omega
 have hwz:IntKind.i64.wrap (s.2+(b.length:Int))=s.2+(b.length:Int):=by rw [IntKind.wrap_i64];omega
 have Hwz:=uQ hwz
 clear hn hb hr hl hs c0 c1 hbl hlen hwz
 go_enter Tryz.func84,Tryz.ntmps84
 go_wp2_with (refine wl_alloc zPlace aQ rfl ?_;intro q w1 hS1)
 refine wpL_begin [10,11] (fun w'=>w'.cell? ⟨p,2,none⟩=some (.slice (some ⟨bk,0,none⟩) (n+1) cap)) kRz ?_
 have hG:w1.drew.cell? ⟨p,2,none⟩=some (.slice (some ⟨bk,0,none⟩) (n+1) cap):=hS1.drew.cellP pkD 2 rfl
 refine rP 0 ?_ (y:=mvQ)
 refine rP 1 ?_ (y:=nlQ)
 refine rP 2 ?_ (y:=flQ)
 refine rt 3 (h:=?_)
 refine rP 4 ?_ (y:=mvQ)
 refine rP 5 ?_ (y:=nlQ)
 refine rP 6 ?_ (y:=flQ)
 refine rt 7 (h:=?_)
 refine rP 8 ?_ (y:=(yl_len evD rnD))
 refine rP 9 ?_ (y:=bnQ)
 refine rP 10 ?_ (y:=ixQ)
 refine rP 11 ?_ (y:=asQ)
 refine wpL_done kRz ?_
 clear hG
 have hS2:=hS1.drew
 generalize w1.drew=w2 at *
 clear hS1 hS
 go_wp2_with fail
 refine wpL_begin [10,11] (fun w'=>w'.cell? ⟨p,0,none⟩=some (ptr m)∧w'.cell? ⟨bk,n * 2,none⟩=some (.int .i64 s.1)) kRz ?_
 have hG:w2.drew.cell? ⟨p,0,none⟩=some (ptr m)∧w2.drew.cell? ⟨bk,n * 2,none⟩=some (.int .i64 s.1):=⟨hS2.drew.cellP pkD 0 rfl,hS2.drew.cellP pkD _ Hc0.out⟩
 refine rP 0 ?_ (y:=mvQ)
 refine rP 1 ?_ (y:=nlQ)
 refine rP 2 ?_ (y:=flQ)
 refine rt 3 (h:=?_)
 refine rP 4 ?_ (y:=mvQ)
 refine rP 5 ?_ (y:=nlQ)
 refine rP 6 ?_ (y:=flQ)
 refine rt 7 (h:=?_)
 refine rP 9 ?_ (y:=mvQ)
 refine rg_eff 8 evD kRz (fun K hK=>?_)
 clear hG
 (refine eff_call1 kRz evD ?_)
 refine (sname_c s.1 hS2.drew).mono ?_
 rintro e w3 ⟨v,rfl,rfl,hS3⟩
 refine hK _ _ (.inr (.inl ⟨hS3.cellP pkD 0 rfl,hS3.cellP pkD _ Hc0.out⟩)) ?_
 clear hK K
 refine rg_eff 10 evD kRz (fun K hK=>?_)
 (refine eff_call3 kRz evD evD evD ?_)
 refine (append_c hM hKK (Sat.pk aQ) _ b (by first|assumption|exact Ro.op (Ro.bsl _ _)|exact Ro.os aQ)).mono ?_
 rintro e w4 ⟨v,rfl,rfl,hS4⟩
 refine hK _ _ (.inl rfl) ?_
 clear hK K
 refine rP 11 ?_ (y:=asQ)
 refine wpL_done kRz ?_
 clear hS3 hS2 Hr
 generalize M.append (Seg.name s.1) b=r at *
 obtain ⟨M2,ee⟩:=r
 by_cases he:ee=0
 ·subst he
  have hfin:=uQ (Hg.out.trans (if_pos rfl))
  have e1:w4.cell? ⟨bk,n * 2+1,none⟩=some (.int .i64 s.2):=hS4.cellP pkD _ Hc1.out
  have hfit:=Hb.out.size;have hle:=Hb.out.le
  have hst:=uQ (show n * 2+1+(Value.int .i64 (s.2+(b.length:Int))).cells.size≤cs.size by show n * 2+1+1≤cs.size;omega)
  have hwz:=Hwz.out
  clear hfit hle
  go_wp2_with (refine wpList_stop rFz ?_)
  refine ⟨wl_store (b:=bk) (o:=n * 2+1) (v:= .int .i64 (s.2+(b.length:Int))) aQ rFz rFz rfl upD hst.out kRz rFz ?_⟩
  intro w5 hS5
  have e0:w5.cell? ⟨bk,n * 2,none⟩=some (.int .i64 s.1):=hS5.cellP pkD _ (by
   show (cs.setIfInBounds (n * 2+1) _)[n * 2]?=_
   rw [Array.getElem?_setIfInBounds_ne oQ];exact Hc0.out)
  clear e1 hst hwz
  go_wp2_with ((with_reducible refine at_store ⟨?_⟩);refine wl_store aQ rFz evD pQ upD nLz kRz rFz ?_;intro wS hS)
  refine ⟨rfl,_,res_cell_tmp rfl aQ rFz pkD Tryz.underlying54 rfl kRz,_,rfl,?_,?_⟩
  ·rw [hfin.out];rfl
  ·rw [hfin.out]
   have h6:=seg_close Hl.out Hb.out _ (Sat.pk hS)
   exact LogRep.shut2 (lv:= .slice (some ⟨bk,0,none⟩) (n+1) cap) (Sat.sb h6)
 ·have heb:(ee==0)=false:=beq_false_of_ne he
  have hfin:=uQ (Hg.out.trans (if_neg he))
  clear he
  go_wp2_with ((with_reducible refine at_store ⟨?_⟩);refine wl_store aQ rFz evD pQ upD nLz kRz rFz ?_;intro wS hS)
  refine ⟨rfl,_,res_cell_tmp rfl aQ rFz pkD Tryz.underlying54 rfl kRz,_,rfl,?_,?_⟩
  ·rw [hfin.out];rfl
  ·rw [hfin.out]
   have h6:=seg_keep Hb.out (Sat.pk hS)
   exact LogRep.shut2 (lv:= .slice (some ⟨bk,0,none⟩) (n+1) cap) (Sat.sb h6)
end
end Go.Proofs.YtlinnpehkfbnkaaGreatDoor
namespace Go.Seg
open Go.Med
theorem Log.shut_off {L:Log} (M:Med) (h:L.on=false):L.shut M=((L,M),0):=by
 unfold Log.shut
 split
 ·rfl
 ·rw [if_neg (by rw [h];decide)]
theorem Log.Ok.last {L:Log} (h:L.Ok) (hon:L.on=true):∃ s,L.l.getLast?=some s:=by
 cases hl:L.l.getLast? with
 |none=>exact absurd (List.getLast?_eq_none_iff.1 hl) (h.on hon)
 |some s=>exact ⟨s,rfl⟩
theorem Log.shut_on {L:Log} (M:Med){s:Int×Int} (hl:L.l.getLast?=some s) (h:L.on=true) :
  L.shut M=if (M.sync (name s.1)).2=0 then (({ L with on:=false },(M.sync (name s.1)).1),0) else ((L,(M.sync (name s.1)).1),(M.sync (name s.1)).2):=by
 unfold Log.shut
 rw [hl]
 simp only [h,if_true]
end Go.Seg
namespace Go.Proofs.YtlinnpehkfbnkaaGreatDoor
open Go Go.Sl Go.Med Go.MapKept Go.RowKit
section
variable {w0 w:World}{F R:List HProp}{v bv dv x lv:Value}{q p m K:Nat}{L:Seg.Log}{M:Med}{s:Int×Int}
set_option maxRecDepth 20000 in
theorem shut_c (hL:L.Ok) (hM:M.Ok K) (h:Sat w0 w (LogRep p m L::MedRep m M::F)) :
  Calls Tryz.prog 151 #[ptr p] w (Rtn fun v w'=>v=errno (L.shut M).2∧Sat w0 w' (LogRep p m (L.shut M).1.1::MedRep m (L.shut M).1.2::F)):=by
 cases hon:L.on
 ·obtain ⟨lv,hR⟩:=LogRep.open h
  refine (shut0_c hon hR).mono ?_
  rintro e w1 ⟨v,rfl,rfl,rfl⟩
  rw [Seg.Log.shut_off M hon]
  exact ⟨_,rfl,rfl,h⟩
 ·obtain ⟨s,hl⟩:=hL.last hon
  obtain ⟨lv,hR⟩:=LogRep.open h
  clear h
  have hlen:=hL.len
  obtain ⟨bk,n,cap,cs,rfl,hb,c0,c1,hS⟩:=seg_block hl hR
  clear hR c1
  have hn:=hb.len
  have Hg:=uQ (Seg.Log.shut_on M hl hon)
  have Hb:=uQ hb;have Hl:=uQ hl;have Hc0:=uQ c0
  have hn0:(n:Int)<(n:Int)+1:=oQ
  have hwn:IntKind.i64.wrap (n:Int)=(n:Int):=by rw [IntKind.wrap_i64];omega
  have e3:w.cell? ⟨p,3,none⟩=some (.bool true):=hS.cellP pkD 3 (by rw [← hon];rfl)
  clear hn hb hl c0 hlen hon
  go_enter Tryz.func151,Tryz.ntmps151
  go_wp2_with fail
  refine wpL_begin [18,19] (fun w'=>w'.cell? ⟨p,0,none⟩=some (ptr m)∧w'.cell? ⟨p,2,none⟩=some (.slice (some ⟨bk,0,none⟩) (n+1) cap)∧w'.cell? ⟨bk,n * 2,none⟩=some (.int .i64 s.1)) kRz ?_
  have hG:w.drew.cell? ⟨p,0,none⟩=some (ptr m)∧w.drew.cell? ⟨p,2,none⟩=some (.slice (some ⟨bk,0,none⟩) (n+1) cap)∧w.drew.cell? ⟨bk,n * 2,none⟩=some (.int .i64 s.1):=⟨hS.drew.cellP pkD 0 rfl,hS.drew.cellP pkD 2 rfl,hS.drew.cellP pkD _ Hc0.out⟩
  refine rP 0 ?_ (y:=mvQ)
  refine rP 1 ?_ (y:=nlQ)
  refine rP 2 ?_ (y:=flQ)
  refine rt 3 (h:=?_)
  refine rP 4 ?_ (y:=mvQ)
  refine rP 5 ?_ (y:=nlQ)
  refine rP 6 ?_ (y:=flQ)
  refine rt 7 (h:=?_)
  refine rP 8 ?_ (y:=mvQ)
  refine rP 9 ?_ (y:=nlQ)
  refine rP 10 ?_ (y:=flQ)
  refine rt 11 (h:=?_)
  refine rP 12 ?_ (y:=(yl_len evD rnD))
  refine rP 13 ?_ (y:=bnQ)
  refine rP 14 ?_ (y:=ixQ)
  refine rP 15 ?_ (y:=flQ)
  refine rt 16 (h:=?_)
  clear hG e3
  refine rg_eff 17 evD kRz (fun K hK=>?_)
  (refine eff_call1 kRz evD ?_)
  refine (sname_c s.1 hS.drew).mono ?_
  rintro e w3 ⟨v,rfl,rfl,hS3⟩
  refine hK _ _ (.inr (.inl ⟨hS3.cellP pkD 0 rfl,hS3.cellP pkD 2 rfl,hS3.cellP pkD _ Hc0.out⟩)) ?_
  clear hK K
  refine rg_eff 18 evD kRz (fun K hK=>?_)
  (refine eff_call2 kRz evD evD ?_)
  refine (sync_c hM (Sat.pk aQ) _).mono ?_
  rintro e w4 ⟨v,rfl,rfl,hS4⟩
  refine hK _ _ (.inl rfl) ?_
  clear hK K
  refine rP 19 ?_ (y:=asQ)
  refine wpL_done kRz ?_
  clear hS3 hS
  generalize M.sync (Seg.name s.1)=r at *
  obtain ⟨M2,ee⟩:=r
  by_cases he:ee=0
  ·subst he
   have hfin:=uQ (Hg.out.trans (if_pos rfl))
   go_wp2_with ((with_reducible refine at_store ⟨?_⟩);refine wl_store aQ rFz evD pQ upD nLz kRz rFz ?_;intro wS hS)
   go_ret
   refine ⟨errno 0,rfl,by rw [hfin.out],?_⟩
   rw [hfin.out]
   have h6:=seg_keep Hb.out (Sat.pk hS)
   exact LogRep.shut2 (lv:= .slice (some ⟨bk,0,none⟩) (n+1) cap) (Sat.sb h6)
  ·have heb:(ee==0)=false:=beq_false_of_ne he
   have hfin:=uQ (Hg.out.trans (if_neg he))
   clear he
   go_wp2_with ((with_reducible refine at_store ⟨?_⟩);refine wl_store aQ rFz evD pQ upD nLz kRz rFz ?_;intro wS hS)
   go_ret
   refine ⟨errno ee,rfl,by rw [hfin.out],?_⟩
   rw [hfin.out]
   have h6:=seg_keep Hb.out (Sat.pk hS4)
   exact LogRep.shut2 (lv:= .slice (some ⟨bk,0,none⟩) (n+1) cap) (Sat.sb h6)
end
end Go.Proofs.YtlinnpehkfbnkaaGreatDoor
