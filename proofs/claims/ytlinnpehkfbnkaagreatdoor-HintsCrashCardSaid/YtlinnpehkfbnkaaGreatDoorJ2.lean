import Derived.Test.YtlinnpehkfbnkaaGreatDoorJ1
import Derived.Sort.OwnSorted
import Derived.Laws.BitsAllLaws
import Derived.Laws.Strings
import Derived.Deep.Slices
import Derived.WalkKit
import Derived.ProofKit
import Derived.OpenShut
import Derived.ShutString
import Derived.ChangeOld
import Derived.Below
namespace Go.Sl
open Go
theorem ayQ {α : Type} : (∀ (l : List α) (i : Nat) (h : i < l.toArray.size), l.toArray[i]'h = l[i]'(by simpa using h)) ∧ (∀ (x : α) (l : List α) (i : Nat) (h : i + 1 < (x :: l).length), (x :: l)[i + 1]'h = l[i]'(by simpa using h)) ∧ (∀ (x : α) (l : List α) (h : 0 < (x :: l).length), (x :: l)[0]'h = x) := ⟨fun l i h => List.getElem_toArray h, fun _ _ _ _ => rfl, fun _ _ _ => rfl⟩
section
variable {P : Program} {ops : Array Oper} {Q : Exit → Act → World → Prop} {late : List Nat} {G : World → Prop}
theorem wdQ {n : Nat} {l : Array Bool} {a : Act} {w : World} (h : Q .normal a w) (hr : Region.ready .any ops l = [] := by kernel_rfl) : wpL P ops Q late G n l a w := wpL_done hr h
theorem wpQ (i : Nat) {oi : Oper} {v : Value} {n : Nat} {l : Array Bool} {a : Act} {w : World} (hi : ops[i]? = some oi := by rfl) (hc : (Region.noSelect ops && Region.free .any ops l i && (Region.ready .any ops l).contains i && shutB ops l) = true := by kernel_rfl) (hQ : ∀ c a w, Q (.panic c) (a.put oi.dst v) w → Q (.panic c) a w := by intro _ _ _ h; exact h) (hw : Region.wanted oi (yielded ops a.tmps) = true := by rfl) (hx : ∀ w, (execOp a.eval oi).run P w = .ok (.value v) w := by ((intro wq; go_simp); first | done | (with_reducible rfl))) (h : wpL P ops Q late G n (l.setIfInBounds i true) (a.put oi.dst v) w) : wpL P ops Q late G (n + 1) l a w := wpL_pure hi hc hQ (.inl ⟨hw, hx⟩) h
end
end Go.Sl
set_option linter.unusedVariables false
set_option maxHeartbeats 128000000
namespace Go.Med
structure Fil.Ok (K:Nat) (f:Fil):Prop where
 now:f.now=f.at f.waits.length
 cuts:∀ k c,f.waits[k]?=some c→c.cut=true→c.n≤(f.at k).length
 size:∀ k,k≤f.waits.length→(f.at k).length≤16777216
 budget:f.waits.length≤K
theorem Fil.at_do (f:Fil) (c:Chg) (k:Nat) (h:k≤f.waits.length):(f.do c).at k=f.at k:=by
 unfold Fil.at Fil.do
 simp only
 rw [List.take_append_of_le_length h]
theorem Fil.at_succ (f:Fil) (k:Nat) (c:Chg) (h:f.waits[k]?=some c):f.at (k+1)=c.on (f.at k):=by
 unfold Fil.at
 obtain ⟨hlt,rfl⟩:=List.getElem?_eq_some_iff.1 h
 rw [List.take_succ_eq_append_getElem hlt,List.foldl_append]
 rfl
theorem Fil.at_do_last (f:Fil) (c:Chg) (hn:f.now=f.at f.waits.length):(f.do c).at (f.waits.length+1)=c.on f.now:=by
 rw [Fil.at_succ _ _ c (by simp [Fil.do]),Fil.at_do _ _ _ (Nat.le_refl _),hn]
theorem Fil.Ok.now_len {K:Nat}{f:Fil} (h:f.Ok K):f.now.length≤16777216:=by
 rw [h.now];exact h.size _ (Nat.le_refl _)
theorem Fil.Ok.mono {K K':Nat}{f:Fil} (h:f.Ok K) (hk:K≤K'):f.Ok K':=⟨h.now,h.cuts,h.size,Nat.le_trans h.budget hk⟩
theorem Fil.Ok.new (K:Nat):Fil.new.Ok K:=⟨rfl,by simp [Fil.new],by simp [Fil.new,Fil.at],by simp [Fil.new]⟩
theorem Fil.Ok.do {K:Nat}{f:Fil} (h:f.Ok K) (c:Chg) (h1:c.cut=true→c.n≤f.now.length) (h2:c.cut=false→f.now.length+c.b.length≤16777216):(f.do c).Ok (K+1):=by
 have hw:(f.do c).waits.length=f.waits.length+1:=by simp [Fil.do]
 refine ⟨?_,?_,?_,by rw [hw];exact Nat.succ_le_succ h.budget⟩
 ·rw [hw,f.at_do_last c h.now];rfl
 ·intro k c' hk hc
  simp only [Fil.do]at hk
  rcases Nat.lt_trichotomy k f.waits.length with hlt|rfl|hgt
  ·rw [List.getElem?_append_left hlt]at hk
   rw [f.at_do c k (Nat.le_of_lt hlt)]
   exact h.cuts k c' hk hc
  ·rw [List.getElem?_append_right (Nat.le_refl _),Nat.sub_self]at hk
   simp at hk;subst hk
   rw [f.at_do c _ (Nat.le_refl _),← h.now];exact h1 hc
  ·rw [List.getElem?_append_right (Nat.le_of_lt hgt)]at hk
   have:k - f.waits.length≠0:=by omega
   obtain ⟨j,hj⟩:∃ j,k - f.waits.length=j+1:=⟨k - f.waits.length - 1,by omega⟩
   rw [hj]at hk;simp at hk
 ·intro k hk
  rw [hw]at hk
  rcases Nat.lt_or_ge k (f.waits.length+1) with hlt|hge
  ·rw [f.at_do c k oQ];exact h.size k oQ
  ·obtain rfl:k=f.waits.length+1:=by omega
   rw [f.at_do_last c h.now]
   unfold Chg.on
   cases hc:c.cut
   ·simpa using h2 hc
   ·simp;have:=h.now_len;omega
theorem Fil.Ok.sync {K:Nat}{f:Fil} (h:f.Ok K):f.sync.Ok K:=
 ⟨rfl,by simp [Fil.sync],(by simp only [Fil.sync,Fil.at];intro k _;simpa using h.now_len),by simp [Fil.sync]⟩
theorem Fil.Ok.flat (K:Nat) (b:Bs) (h:b.length≤16777216):(⟨b,b,[]⟩:Fil).Ok K:=⟨rfl,by simp,by intro k _;simpa [Fil.at] using h,by simp⟩
theorem clampN_le (x:Int) (n:Nat):clampN x n≤n:=Nat.min_le_right _ _
theorem Fil.left_len {K:Nat}{f:Fil} (h:f.Ok K) (a b:Int):(f.left a b).length≤16777216:=by
 unfold Fil.left
 have hk:=clampN_le a f.waits.length
 generalize clampN a f.waits.length=k at *
 simp only
 cases hc:f.waits[k]? with
 |none=>exact h.size k hk
 |some c=>
  simp only
  split
  ·exact h.size k hk
  ·rename_i hcut
   have hlt:=(List.getElem?_eq_some_iff.1 hc).1
   have:=h.size (k+1) hlt
   rw [f.at_succ k c hc]at this
   unfold Chg.on at this
   rw [if_neg hcut]at this
   simp at this ⊢
   have:min (clampN b c.b.length) c.b.length≤c.b.length:=Nat.min_le_right _ _
   omega
theorem Fil.Ok.crash {K:Nat}{f:Fil} (h:f.Ok K) (a b:Int):(f.crash a b).Ok K:=Fil.Ok.flat K _ (f.left_len h a b)
def Srt (l:Names):Prop:=l.Pairwise fun a b=>lt a.1 b.1=true
theorem lt_trans {a b c:ByteArray} (h:lt a b=true) (k:lt b c=true):lt a c=true:=by
 simp only [lt,decide_eq_true_eq]at *;exact List.lt_trans h k
theorem lt_irrefl (a:ByteArray):lt a a=false:=by simp [lt,List.lt_irrefl]
theorem lt_or {a b:ByteArray} (h:a≠b):lt a b=true∨lt b a=true:=by
 simp only [lt,decide_eq_true_eq]
 by_cases h1:a.data.toList<b.data.toList
 ·exact .inl h1
 ·right
  have h2:b.data.toList≤a.data.toList:=List.not_lt.1 h1
  rcases List.le_iff_lt_or_eq.1 h2 with h3|h3
  ·exact h3
  ·exfalso;apply h
   obtain ⟨⟨x⟩⟩:=a;obtain ⟨⟨y⟩⟩:=b
   simp at h3;subst h3;rfl
theorem Srt.keys {l:Names} (h:Srt l):(l.map (·.1)).Nodup:=by
 rw [List.nodup_iff_pairwise_ne,List.pairwise_map]
 refine h.imp fun {a b} hab e=>?_
 rw [e,lt_irrefl]at hab;cases hab
theorem Srt.del {l:Names} (h:Srt l) (s:ByteArray):Srt (ndel l s):=h.sublist List.filter_sublist
theorem Srt.ins:∀ {l:Names},Srt l→∀ {s:ByteArray} (i:Nat),(∀ p∈l,p.1≠s)→Srt (nins l s i)
 |[],_,_,_,_=>List.pairwise_singleton _ _
 |p::l,h,s,i,hs=>by
  unfold nins
  obtain ⟨h1,h2⟩:=List.pairwise_cons.1 h
  split
  ·rename_i hlt
   refine List.pairwise_cons.2 ⟨fun q hq=>?_,h⟩
   rcases List.mem_cons.1 hq with rfl|hq
   ·exact hlt
   ·exact lt_trans hlt (h1 q hq)
  ·rename_i hlt
   have hps:lt p.1 s=true:=(lt_or (hs p (.head _))).resolve_right (by simpa using hlt)
   refine List.pairwise_cons.2 ⟨fun q hq=>?_,Srt.ins h2 i (fun q hq=>hs q (.tail _ hq))⟩
   have:=(nins_perm l s i).mem_iff.1 hq
   rcases List.mem_cons.1 this with rfl|hq
   ·exact hps
   ·exact h1 q hq
theorem Srt.put {l:Names} (h:Srt l) (s:ByteArray) (i:Nat):Srt (nput l s i):=(h.del s).ins i (ndel_keys l s)
structure NOk (n:Nat) (l:Names):Prop where
 srt:Srt l
 len:l.length≤500
 ids:∀ p∈l,p.2<n
 ne:∀ p∈l,p.1≠ByteArray.empty
theorem NOk.mono {n n':Nat}{l:Names} (h:NOk n l) (hn:n≤n'):NOk n' l:=⟨h.srt,h.len,fun p hp=>Nat.lt_of_lt_of_le (h.ids p hp) hn,h.ne⟩
theorem ndel_len (l:Names) (s:ByteArray):(ndel l s).length≤l.length:=List.length_filter_le _ _
theorem NOk.del {n:Nat}{l:Names} (h:NOk n l) (s:ByteArray):NOk n (ndel l s):=
 ⟨h.srt.del s,Nat.le_trans (ndel_len l s) h.len,fun p hp=>h.ids p (List.mem_filter.1 hp).1,fun p hp=>h.ne p (List.mem_filter.1 hp).1⟩
theorem nput_len (l:Names) (s:ByteArray) (i:Nat):(nput l s i).length=(ndel l s).length+1:=(nput_perm l s i).length_eq
theorem NOk.put {n:Nat}{l:Names} (h:NOk n l) (s:ByteArray) (i:Nat) (hi:i<n) (hl:(ndel l s).length<500) (hs:s≠ByteArray.empty):NOk n (nput l s i):=by
 refine ⟨h.srt.put s i,by rw [nput_len];omega,fun p hp=>?_,fun p hp=>?_⟩
 rotate_left
 ·rcases List.mem_cons.1 ((nput_perm l s i).mem_iff.1 hp) with rfl|hp
  ·exact hs
  ·exact h.ne p (List.mem_filter.1 hp).1
 rcases List.mem_cons.1 ((nput_perm l s i).mem_iff.1 hp) with rfl|hp
 ·exact hi
 ·exact h.ids p (List.mem_filter.1 hp).1
theorem ndel_lt {l:Names} (hs:Srt l){s:ByteArray}{i:Nat} (h:nget l s=some i):(ndel l s).length+1=l.length:=by
 have:=(ndel_perm hs.keys (nget_mem h)).length_eq
 simp at this;omega
structure Med.Ok (K:Nat) (m:Med):Prop where
 room:m.room≤16777216
 left:m.left≤9223372036854775807
 links:∀ x∈m.waits,x.to≠ByteArray.empty→x.f<m.files.length
 names:∀ k,k≤m.waits.length→NOk m.files.length (m.lastNames k)
 now:m.now=m.lastNames m.waits.length
 files:∀ f∈m.files,f.Ok K
 budget:m.waits.length≤K
theorem Med.Ok.nowOk {K:Nat}{m:Med} (h:m.Ok K):NOk m.files.length m.now:=by rw [h.now];exact h.names _ (Nat.le_refl _)
theorem Med.Ok.fastOk {K:Nat}{m:Med} (h:m.Ok K):NOk m.files.length m.fast:=h.names 0 (Nat.zero_le _)
theorem Med.Ok.file {K:Nat}{m:Med} (h:m.Ok K) (i:Nat):(m.file i).Ok K:=by
 unfold Med.file
 rcases Nat.lt_or_ge i m.files.length with hi|hi
 ·rw [List.getD_eq_getElem?_getD,List.getElem?_eq_getElem hi];exact h.files _ (List.getElem_mem hi)
 ·rw [List.getD_eq_getElem?_getD,List.getElem?_eq_none hi];exact Fil.Ok.new K
theorem Med.Ok.mono {K K':Nat}{m:Med} (h:m.Ok K) (hk:K≤K'):m.Ok K':=
 ⟨h.room,h.left,h.links,h.names,h.now,fun f hf=>(h.files f hf).mono hk,Nat.le_trans h.budget hk⟩
theorem Med.Ok.new (K room:Nat) (h:room≤16777216):(new room).Ok K:=
 ⟨h,by simp [Med.new],by simp [Med.new],(by intro k _;simp [Med.new,Med.lastNames];exact ⟨List.Pairwise.nil,by simp,by simp,by simp⟩),by simp [Med.new,Med.lastNames],by simp [Med.new],by simp [Med.new]⟩
theorem Med.Ok.step {K:Nat}{m:Med} (h:m.Ok K):m.step.1.Ok K:=by
 unfold Med.step
 split
 ·split
  ·exact ⟨h.room,h.left,h.links,h.names,h.now,h.files,h.budget⟩
  ·exact ⟨h.room,Nat.le_trans (Nat.sub_le _ _) h.left,h.links,h.names,h.now,h.files,h.budget⟩
 ·exact h
theorem Med.step_same (m:Med):m.step.1.room=m.room∧m.step.1.fast=m.fast∧m.step.1.now=m.now∧m.step.1.files=m.files∧m.step.1.waits=m.waits:=by
 unfold Med.step
 split
 ·split <;> exact ⟨rfl,rfl,rfl,rfl,rfl⟩
 ·exact ⟨rfl,rfl,rfl,rfl,rfl⟩
theorem Med.lastNames_link (m:Med) (x:Lnk) (k:Nat) (h:k≤m.waits.length):(m.link x).lastNames k=m.lastNames k:=by
 unfold Med.lastNames Med.link
 simp only
 rw [List.take_append_of_le_length h]
theorem Med.lastNames_last (m:Med) (x:Lnk) (h:m.now=m.lastNames m.waits.length):(m.link x).lastNames (m.waits.length+1)=x.on m.now:=by
 rw [h]
 unfold Med.lastNames Med.link
 simp only
 rw [List.take_of_length_le (by simp),List.take_of_length_le (Nat.le_refl _),List.foldl_append]
 rfl
theorem Med.Ok.link {K:Nat}{m:Med} (h:m.Ok K) (x:Lnk) (hf:x.to≠ByteArray.empty→x.f<m.files.length) (hn:NOk m.files.length (x.on m.now)):(m.link x).Ok (K+1):=by
 have hw:(m.link x).waits.length=m.waits.length+1:=by simp [Med.link]
 refine ⟨h.room,h.left,?_,?_,?_,fun f hf=>(h.files f hf).mono (Nat.le_succ _),by rw [hw];exact Nat.succ_le_succ h.budget⟩
 ·intro y hy
  simp only [Med.link,List.mem_append,List.mem_singleton]at hy
  rcases hy with hy|rfl
  ·exact h.links y hy
  ·exact hf
 ·intro k hk
  rw [hw]at hk
  rcases Nat.lt_or_ge k (m.waits.length+1) with hlt|hge
  ·rw [m.lastNames_link x k oQ];exact h.names k oQ
  ·obtain rfl:k=m.waits.length+1:=by omega
   rw [m.lastNames_last x h.now];exact hn
 ·rw [hw,m.lastNames_last x h.now];rfl
theorem Med.Ok.setFile {K:Nat}{m:Med} (h:m.Ok K) (i:Nat) (f:Fil) (hf:f.Ok (K+1)):(m.setFile i f).Ok (K+1):=by
 have hl:(m.setFile i f).files.length=m.files.length:=by simp [Med.setFile]
 refine ⟨h.room,h.left,(by rw [hl];exact h.links),(by rw [hl];exact h.names),h.now,?_,Nat.le_succ_of_le h.budget⟩
 intro g hg
 rcases List.mem_or_eq_of_mem_set hg with hg|rfl
 ·exact (h.files g hg).mono (Nat.le_succ _)
 ·exact hf
theorem Med.Ok.newFile {K:Nat}{m:Med} (h:m.Ok K):({ m with files:=m.files++[Fil.new] }:Med).Ok K:=by
 have hl:(m.files++[Fil.new]).length=m.files.length+1:=by simp
 refine ⟨h.room,h.left,fun x hx ht=>(by have:=h.links x hx ht;simp only [hl];omega),fun k hk=>(h.names k hk).mono (by simp),h.now,?_,h.budget⟩
 intro f hf
 rcases List.mem_append.1 hf with hf|hf
 ·exact h.files f hf
 ·rw [List.mem_singleton.1 hf];exact Fil.Ok.new K
theorem good_ne {s:ByteArray} (h:good s=true):s≠ByteArray.empty:=by
 intro e;subst e;simp [good]at h
theorem Med.Ok.create {K:Nat}{m:Med} (h:m.Ok K) (s:ByteArray):(m.create s).1.Ok (K+1):=by
 unfold Med.create
 have h':=h.mono (Nat.le_succ K)
 split;· exact h'
 split;· exact h'
 rename_i hg
 split;· exact h'
 rename_i hn
 split;· exact h'
 rename_i hl
 split;· exact h'.step
 have hst:=h.step
 obtain ⟨e1,e2,e3,e4,e5⟩:=m.step_same
 have hg':good s=true:=by simpa using hg
 have hn':nget m.now s=none:=by simpa using hn
 have h1:=hst.newFile
 rw [e4]at h1
 refine h1.link _ (fun _=>by simp) ?_
 show NOk _ (Lnk.on _ m.step.1.now)
 rw [e3]
 unfold Lnk.on
 simp only [if_true,if_neg (good_ne hg')]
 exact (h.nowOk.mono (by simp)).put s _ (by simp) (by rw [ndel_none hn'];omega) (good_ne hg')
theorem le_sum:∀ (l:List Nat) (n:Nat),n∈l→n≤l.sum
 |[],_,h=>by cases h
 |x::l,n,h=>by
  rcases List.mem_cons.1 h with rfl|h
  ·simp
  ·have:=le_sum l n h;simp;omega
theorem Med.Ok.append {K:Nat}{m:Med} (h:m.Ok K) (s:ByteArray) (b:Bs):(m.append s b).1.Ok (K+1):=by
 unfold Med.append
 have h':=h.mono (Nat.le_succ K)
 split;· exact h'
 split;· exact h'
 rename_i i hi
 split;· exact h'
 rename_i hroom
 split;· exact h'.step
 refine h.step.setFile _ _ ((h.file i).do _ (by simp) ?_)
 intro _
 have hu:(m.file i).now.length≤m.used:=by
  unfold Med.used
  have:(s,i)∈m.now:=nget_mem hi
  exact le_sum _ _ (List.mem_map.2 ⟨(s,i),this,rfl⟩)
 have:=h.room
 simp only
 omega
theorem Med.Ok.rename {K:Nat}{m:Med} (h:m.Ok K) (s t:ByteArray):(m.rename s t).1.Ok (K+1):=by
 unfold Med.rename
 have h':=h.mono (Nat.le_succ K)
 split;· exact h'
 split;· exact h'
 rename_i i hi
 split;· exact h'
 rename_i hg
 split;· exact h'.step
 obtain ⟨e1,e2,e3,e4,e5⟩:=m.step_same
 have hg':good t=true:=by simpa using hg
 have hid:i<m.files.length:=h.nowOk.ids _ (nget_mem hi)
 refine h.step.link _ (fun _=>by rw [e4];exact hid) ?_
 rw [e3,e4]
 unfold Lnk.on
 simp only [if_neg (good_ne hg')]
 have hd:=ndel_lt h.nowOk.srt hi
 have hl:=h.nowOk.len
 have hs:s≠ByteArray.empty:=h.nowOk.ne _ (nget_mem hi)
 rw [if_neg hs]
 refine (h.nowOk.del s).put t i hid ?_ (good_ne hg')
 have:=ndel_len (ndel m.now s) t
 omega
theorem Med.Ok.remove {K:Nat}{m:Med} (h:m.Ok K) (s:ByteArray):(m.remove s).1.Ok (K+1):=by
 unfold Med.remove
 have h':=h.mono (Nat.le_succ K)
 split;· exact h'
 split;· exact h'
 rename_i i hi
 split;· exact h'.step
 obtain ⟨e1,e2,e3,e4,e5⟩:=m.step_same
 refine h.step.link _ (fun hh=>absurd rfl hh) ?_
 rw [e3,e4]
 unfold Lnk.on
 have hs:s≠ByteArray.empty:=h.nowOk.ne _ (nget_mem hi)
 simp only [if_true,if_neg hs]
 exact h.nowOk.del s
theorem Med.Ok.sync {K:Nat}{m:Med} (h:m.Ok K) (s:ByteArray):(m.sync s).1.Ok (K+1):=by
 unfold Med.sync
 have h':=h.mono (Nat.le_succ K)
 split;· exact h'
 split;· exact h'
 rename_i i hi
 split;· exact h'.step
 exact h.step.setFile _ _ ((h.file i).sync.mono (Nat.le_succ _))
theorem Med.Ok.syncDir {K:Nat}{m:Med} (h:m.Ok K):m.syncDir.1.Ok K:=by
 unfold Med.syncDir
 split;· exact h
 split;· exact h.step
 obtain ⟨e1,e2,e3,e4,e5⟩:=m.step_same
 have hs:=h.step
 refine ⟨hs.room,hs.left,by simp,?_,?_,hs.files,by simp⟩
 ·intro k _
  show NOk _ _
  simp only [Med.lastNames,List.take_nil,List.foldl_nil]
  rw [e4];exact h.nowOk
 ·simp only [Med.lastNames,List.take_nil,List.foldl_nil]
  exact e3
theorem Med.Ok.arm {K:Nat}{m:Med} (h:m.Ok K) (n:Int) (hn:n≤9223372036854775807):(m.arm n).1.Ok K:=by
 unfold Med.arm
 split;· exact h
 split;· exact h
 exact ⟨h.room,by simp only;omega,h.links,h.names,h.now,h.files,h.budget⟩
theorem crashFiles_len (l:List Int):∀ (ns:Names) (j:Nat) (fs:List Fil),(crashFiles l ns j fs).length=fs.length
 |[],_,_=>rfl
 |p::ns,j,fs=>by unfold crashFiles;rw [crashFiles_len l ns];simp
theorem crashFiles_ok (l:List Int) (K:Nat):∀ (ns:Names) (j:Nat) (fs:List Fil),(∀ f∈fs,f.Ok K)→∀ f∈crashFiles l ns j fs,f.Ok K
 |[],_,_,h=>h
 |p::ns,j,fs,h=>by
  unfold crashFiles
  refine crashFiles_ok l K ns _ _ ?_
  intro f hf
  rcases List.mem_or_eq_of_mem_set hf with hf|rfl
  ·exact h f hf
  ·refine Fil.Ok.crash ?_ _ _
   rcases Nat.lt_or_ge p.2 fs.length with hi|hi
   ·rw [List.getD_eq_getElem?_getD,List.getElem?_eq_getElem hi];exact h _ (List.getElem_mem hi)
   ·rw [List.getD_eq_getElem?_getD,List.getElem?_eq_none hi];exact Fil.Ok.new K
theorem Med.Ok.crash {K:Nat}{m:Med} (h:m.Ok K) (l:List Int):(m.crash l).Ok K:=by
 unfold Med.crash
 have hn:=h.names _ (clampN_le (num l 0) m.waits.length)
 generalize m.lastNames (clampN (num l 0) m.waits.length)=ns at *
 refine ⟨h.room,by simp,by simp,?_,?_,crashFiles_ok l K ns 1 m.files h.files,by simp⟩
 ·intro k _
  simp only [Med.lastNames,List.take_nil,List.foldl_nil,crashFiles_len]
  exact hn
 ·simp only [Med.lastNames,List.take_nil,List.foldl_nil]
theorem sum_le (l:List Nat) (b:Nat) (h:∀ x∈l,x≤b):l.sum≤l.length * b:=by
 induction l with
 |nil=>simp
 |cons x l ih=>
  have h1:=h x (.head _)
  have h2:=ih fun y hy=>h y (.tail _ hy)
  simp only [List.sum_cons,List.length_cons,Nat.add_mul]
  omega
theorem Med.Ok.used_le {K:Nat}{m:Med} (h:m.Ok K):m.used≤8388608000:=by
 unfold Med.used
 have h1:=sum_le (m.now.map fun p=>(m.file p.2).now.length) 16777216 (by
  intro x hx
  obtain ⟨p,_,rfl⟩:=List.mem_map.1 hx
  exact (h.file p.2).now_len)
 have:=h.nowOk.len
 rw [List.length_map]at h1
 have:=Nat.mul_le_mul_right 16777216 this
 omega
end Go.Med
namespace Go.Proofs.YtlinnpehkfbnkaaGreatDoor
open Go Go.Sl Go.Med Go.MapKept Go.RowKit
section
variable {w0 w:World}{F:List HProp}{m fb nb b r:Nat}{M:Med}{bs:List Nat}{wv v bv:Value}{s:ByteArray}{l:Names}{fs:List Fil}
theorem file_cells (h:Sat w0 w (filesRep bs fs::F)) (hl:bs.length=fs.length){i:Nat} (hi:i<fs.length) :
  ∃ fa fn fc na nc wv,w.cell? ⟨bs.getD i 0,0,none⟩=some (.slice fa fn fc)∧w.cell? ⟨bs.getD i 0,1,none⟩=some (.slice na (fs.getD i Fil.new).now.length nc)∧w.cell? ⟨bs.getD i 0,2,none⟩=some wv ∧
   rdsl 1 (.slice na (fs.getD i Fil.new).now.length nc) (bys (fs.getD i Fil.new).now) w∧(fs.getD i Fil.new).now.length≤nc∧nc≤9223372036854775807∧(na=none∧nc=0∨∃ g,na=some ⟨g,0,none⟩):=by
 obtain ⟨G,h1,_⟩:=files_take bs fs i hl hi
 rw [h1]at h
 obtain ⟨fv,nv,wv,ws,hws,h⟩:=FilRep.open (Sat.star.1 h)
 obtain ⟨fa,fn,fc,rfl,_⟩:=(h.sel 2 [1] rfl rfl).rd
 have hN:=h.sel 3 [2] rfl rfl
 have hr:=hN.rd
 rcases Sat.osl_cases hN with ⟨rfl,hx,_⟩|⟨g,n,cap,cs,rfl,hx,h1,_,h3,_,_⟩
 ·have hx0:(fs.getD i Fil.new).now.length=0:=by rw [← bys_len];exact congrArg List.length hx
  rw [hx0]
  exact ⟨fa,fn,fc,none,0,wv,h.cellAt 0 _ rfl,h.cellAt 1 _ rfl,h.cellAt 2 _ rfl,hr,Nat.le_refl _,by omega,.inl ⟨rfl,rfl⟩⟩
 ·rw [bys_len,Nat.mul_one]at hx
  subst hx
  exact ⟨fa,fn,fc,_,cap,wv,h.cellAt 0 _ rfl,h.cellAt 1 _ rfl,h.cellAt 2 _ rfl,hr,h1,h3,.inr ⟨g,rfl⟩⟩
theorem mapL_pick {todo:Names}{k v:Value}{left:List (Value×Value)} (h:(mapL bs todo).Perm ((k,v)::left)) :
  ∃ p todo',todo.Perm (p::todo')∧k = .string p.1∧v=ptr (bs.getD p.2 0)∧left.Perm (mapL bs todo'):=by
 have hm:(k,v)∈mapL bs todo:=h.mem_iff.2 (.head _)
 obtain ⟨p,hp,e⟩:=List.mem_map.1 hm
 simp only [Prod.mk.injEq]at e
 obtain ⟨t1,t2,rfl⟩:=List.append_of_mem hp
 have h1:(t1++p::t2).Perm (p::(t1++t2)):=List.perm_middle
 refine ⟨p,t1++t2,h1,e.1.symm,e.2.symm,?_⟩
 have h2:((k,v)::left).Perm ((k,v)::mapL bs (t1++t2)):=by
  refine h.symm.trans ((mapL_perm h1).trans ?_)
  show List.Perm ((Value.string p.1,ptr (bs.getD p.2 0))::mapL bs (t1++t2)) _
  rw [e.1,e.2]
 exact (List.Perm.cons_inv h2)
def sumOf (M:Med) (l:Names):Nat:=(l.map fun p=>(M.file p.2).now.length).sum
theorem sumOf_perm {l l':Names} (h:l.Perm l'):sumOf M l=sumOf M l':=(h.map _).sum_nat
abbrev usedCon (m:Nat) (M:Med) (fb nb:Nat) (wv:Value) (bs:List Nat) (F:List HProp):List HProp:=medPt m M fb nb wv::omap .string nb (mapL bs M.now)::filesRep bs M.files::F
theorem used_c (h:Sat w0 w (usedCon m M fb nb wv bs F)) (hl:bs.length=M.files.length) (hid:∀ p∈M.now,p.2<M.files.length) (hu:M.used≤9223372036854775807) :
  Calls Tryz.prog 182 #[ptr m] w (Rtn fun v w'=>v = .int .i64 M.usedTold∧Sat w0 w' (usedCon m M fb nb wv bs F)):=by
 have hd:=dead_c h
 have c2:=h.cellAt 2 _ rfl
 cases ho:M.off
 ·rw [ho]at hd
  have Hu:Hid (M.usedTold=M.used):=by show _=_;unfold Med.usedTold;rw [ho];rfl
  clear ho
  go_enter Tryz.func182,Tryz.ntmps182
  go_wp2_with (first
   |(go_at_call 97;refine hd.mono ?_;rintro e w1 ⟨v,rfl,rfl,rfl⟩)
   |(at_range;go_must (refine wpList_range_sl rFz _ _ _ _ rFz Tryz.underlying155 rFz h.pick1 ?_);intro r w1 hS))
  go_frame
  go_loopg [3] M.now.length (fun g n wr=>∃ (acc:Nat) (todo:Names) (left:List (Value×Value)),n = .int .i64 acc∧g=todo.length∧left.Perm (mapL bs todo)∧(∀ p∈todo,p∈M.now)∧acc+sumOf M todo=M.used ∧
   Sat w0 wr (rng .string nb r (mapL bs M.now) left::medPt m M fb nb wv::filesRep bs M.files::F))
  case atStart=>exact ⟨0,M.now,_,rfl,rfl,List.Perm.refl _,fun _ h=>h,by simp [Med.used,sumOf],hS⟩
  case round=>
   obtain ⟨acc,todo,left,rfl,rfl,hleft,hsub,hacc,hS⟩:=hrel
   have Hacc:=uQ hacc
   have Hsub:=uQ hsub
   have hb:acc≤M.used:=by omega
   clear hacc hsub
   go_wp2_with (first
    |(at_next;go_must (refine wpList_next_sl rFz _ rFz rFz hS ?_ ?_)))
   ·intro hnil
    have Hnil:=uQ hnil;clear hnil
    go_wp2
    go_ret
    refine ⟨.int .i64 acc,rfl,?_,?_⟩
    ·have h0:todo=[]:=by
      have:=hleft
      rw [Hnil.out]at this
      simpa [mapL] using this.symm
     subst h0
     have:=Hacc.out
     simp only [sumOf,List.map_nil,List.sum_nil,Nat.add_zero]at this
     rw [Hu.out,this]
    ·exact (hS.rng_done).pick1
   ·intro k v left' w1 hp hS1 hen
    obtain ⟨p,todo',hp',rfl,rfl,hl'⟩:=mapL_pick (hleft.symm.trans hp)
    have hpi:p.2<M.files.length:=hid p (Hsub.out p (hp'.mem_iff.2 (.head _)))
    obtain ⟨fa,fn,fc,na,nc,wv',f0,f1,f2,_,_,_,hna⟩:=file_cells (hS1.sel 3 [2] rfl rfl) hl hpi
    have hsum:Hid (sumOf M todo=(M.file p.2).now.length+sumOf M todo'):=by
     show _=_
     rw [sumOf_perm hp'];simp [sumOf]
    have hb2:acc+(M.file p.2).now.length≤M.used:=by
     have h1:=Hacc.out
     have h2:=hsum.out
     omega
    have Hp:=uQ hp'
    have Hl:=uQ hl'
    clear hp hp' hl' hleft
    clear hna
    change w1.cell? ⟨bs.getD p.2 0,1,none⟩=some (.slice na (M.file p.2).now.length nc) at f1
    generalize bs.getD p.2 0=q at *
    generalize hL:(M.file p.2).now.length=L at *
    have HL:=uQ hL;clear hL
    go_wp2
    go_roundg todo'.length
    case measure=>have:=Hp.out.length_eq;simp at this;omega
    case rel=>
     refine ⟨acc+L,todo',left',by go_num,rfl,Hl.out,fun x hx=>Hsub.out x (Hp.out.mem_iff.2 (.tail _ hx)),?_,hS1⟩
     have h1:=Hacc.out
     have h2:=hsum.out
     omega
 ·rw [ho]at hd
  have Hu:Hid (M.usedTold=0):=by show _=_;unfold Med.usedTold;rw [ho];rfl
  clear ho
  go_enter Tryz.func182,Tryz.ntmps182
  go_wp2_with (go_at_call 97;refine hd.mono ?_;rintro e w1 ⟨v,rfl,rfl,rfl⟩)
  go_ret
  exact ⟨.int .i64 0,rfl,by rw [Hu.out];rfl,h⟩
end
section
variable {w0 w:World}{F:List HProp}{m fb nb b r:Nat}{M:Med}{bs:List Nat}{wv v bv:Value}{s:ByteArray}{l:Names}{fs:List Fil}
open Go.Sort in
theorem sort_c (ss:List (List UInt8)) (h:Sat w0 w (osl 9 1 v (ss.map encStr)::F)) (hsz:ss.length<4611686018427387904) :
  Calls Tryz.prog 153 #[v] w (Rtn fun _ w'=>Sat w0 w' (osl 9 1 v ((ss.mergeSort fun x y=>decide (x≤y)).map encStr)::F)):=by
 rcases h.osl_cases with ⟨rfl,hn,h'⟩|⟨g,n,cap,cs,rfl,hl,hn,hc,hcm,htk,hp⟩
 ·have hn':ss=[]:=by simpa using hn
  subst hn'
  refine (Tryz.slices_Sort_string_none none 0 w).mono ?_
  rintro e w1 ⟨rfl,rfl⟩
  exact ⟨_,rfl,by simpa using h⟩
 ·have hl':n=ss.length:=by simpa using hl.symm
  subst hl'
  rw [Nat.mul_one]at htk
  refine (Tryz.slices_Sort_string g 0 cap ss w (holds_of_block hp.at htk) hp.lt hsz).mono ?_
  rintro e w1 ⟨rfl,n,os,rfl⟩
  refine ⟨_,rfl,?_⟩
  have hg:=grownBy_sorted (w:=w) (g:=g) (n:=n) (os:=os) (ss.mergeSort fun x y=>decide (x≤y)).toArray
  have:=hp.turn hg.os hg.tape hg.output hg.size (heap_sorted (n:=n) (os:=os) (ss.mergeSort fun x y=>decide (x≤y)).toArray hp.at) (fun i hi hlt=>hg.block i hlt (by simpa using hi))
  refine this.osl_of_pt (by simp) hn (by simpa [Sort.putCells] using hc) hcm ?_
  have h1:=take_putCells cs (ss.mergeSort fun x y=>decide (x≤y)) (by rw [List.length_mergeSort];omega)
  rw [List.length_mergeSort]at h1
  rw [Nat.mul_one];exact h1
theorem encStr_ba (s:ByteArray):encStr s.data.toList = .string s:=by simp [encStr]
theorem sorted_keys {l:Names} (hs:Srt l){ks:List ByteArray} (hp:ks.Perm (l.map (·.1))) :
  ((ks.map fun s=>s.data.toList).mergeSort fun x y=>decide (x≤y)).map encStr=l.map fun p=> .string p.1:=by
 have h1:((ks.map fun s=>s.data.toList).mergeSort fun x y=>decide (x≤y))=l.map fun p=>p.1.data.toList:=by
  refine List.Perm.eq_of_pairwise (le:=fun x y=>decide (x≤y)=true) ?_ ?_ ?_ ?_
  ·intro a b _ _ h1 h2
   simp only [decide_eq_true_eq]at h1 h2
   exact List.le_antisymm h1 h2
  ·refine List.pairwise_mergeSort ?_ ?_ _
   ·intro a b c h1 h2
    simp only [decide_eq_true_eq]at *
    exact List.le_trans h1 h2
   ·intro a b
    simp only [Bool.or_eq_true,decide_eq_true_eq]
    exact List.le_total a b
  ·rw [List.pairwise_map]
   refine hs.imp fun {a b} hab=>?_
   simp only [lt,decide_eq_true_eq]at hab ⊢
   exact List.le_of_lt hab
  ·refine (List.mergeSort_perm _ _).trans ?_
   have:=hp.map fun s:ByteArray=>s.data.toList
   rw [List.map_map]at this
   exact this
 rw [h1,List.map_map]
 apply List.map_congr_left
 intro p _
 exact encStr_ba p.1
theorem infoStr:(Tryz.prog.info? 9).map (fun i=>(i.zero,i.size,i.bytes))=some (some (.string ByteArray.empty),1,16):=by kernel_rfl
def strs (l:List ByteArray):List Value:=l.map Value.string
theorem strs_enc (l:List ByteArray):strs l=(l.map fun s=>s.data.toList).map encStr:=by
 unfold strs;rw [List.map_map];apply List.map_congr_left;intro s _;exact (encStr_ba s).symm
theorem names_c (h:Sat w0 w (omap .string b (mapL bs l)::F)) (hs:Srt l) (hl:l.length≤1099511627776) :
  Calls Tryz.prog 91 #[.map (some b)] w (Rtn fun v w'=>Sat w0 w' (osl 9 1 v (strs (l.map (·.1)))::omap .string b (mapL bs l)::F)∧∃ a n c,v = .slice a n c):=by
 obtain ⟨i,hi,hz0,hz1,hz2⟩:=info_parts infoStr
 have Hs:=uQ hs;clear hs
 go_enter Tryz.func91,Tryz.ntmps91
 go_wp2_with (at_range;go_must (refine wpList_range_sl rFz _ _ _ _ rFz Tryz.underlying155 rFz h ?_);intro r w1 hS)
 go_frame
 go_loopg [3] l.length (fun g n wr=>∃ (ks:List ByteArray) (todo:Names) (left:List (Value×Value)),g=todo.length∧left.Perm (mapL bs todo)∧(ks++todo.map (·.1)).Perm (l.map (·.1)) ∧
   Sat w0 wr (osl 9 1 n (strs ks)::rng .string b r (mapL bs l) left::F))
 case atStart=>exact ⟨[],l,_,rfl,List.Perm.refl _,List.Perm.refl _,by unfold strs;exact Sat.osl_nil.2 hS⟩
 case round=>
  obtain ⟨ks,todo,left,rfl,hleft,hperm,hS⟩:=hrel
  have hlen:ks.length+todo.length=l.length:=by have:=hperm.length_eq;simpa using this
  obtain ⟨oa,on,oc,rfl,hoc,_⟩:=hS.rd
  clear hoc
  have Hleft:=uQ hleft
  have Hperm:=uQ hperm
  clear hleft hperm
  go_wp2_with (at_next;go_must (refine wpList_next_sl rFz _ rFz rFz hS.pick1 ?_ ?_))
  ·intro hnil
   have Hnil:=uQ hnil;clear hnil
   have h0:todo=[]:=by
    have:=Hleft.out
    rw [Hnil.out]at this
    simpa [mapL] using this.symm
   subst h0
   have hk:ks.Perm (l.map (·.1)):=by simpa using Hperm.out
   have hsort:=sort_c (ks.map fun s=>s.data.toList) (by rw [← strs_enc];exact hS) (by simp at hlen ⊢;omega)
   rw [sorted_keys Hs.out hk]at hsort
   have Hk:=uQ hk;clear hk
   go_wp2_with (go_at_call 153;refine hsort.mono ?_;rintro e w2 ⟨v,rfl,hS2⟩)
   go_ret
   refine ⟨_,rfl,?_,_,_,_,rfl⟩
   have h9:=(hS2.pick1.rng_done).pick1
   have e1:strs (l.map (·.1))=l.map fun p=>Value.string p.1:=by unfold strs;rw [List.map_map];rfl
   rw [e1];exact h9
  ·intro k v left' w1 hp hS1 hen
   obtain ⟨p,todo',hp',rfl,rfl,hl'⟩:=mapL_pick (Hleft.out.symm.trans hp)
   have hlen2:todo.length=todo'.length+1:=by have:=hp'.length_eq;simpa using this
   have Hp:=uQ hp'
   have Hl:=uQ hl'
   clear hp hp' hl'
   have hb1:=hS1.pick1.alloc (.cells #[.string p.1] 9)
   have h63:(strs ks).length+1≤maxLen:=by unfold strs maxLen;rw [List.length_map];omega
   have hby:((strs ks).length+1) * i.bytes≤140737488355328:=by unfold strs;rw [List.length_map,hz2];omega
   have hoc:∀ u∈(#[.string p.1]:Array Value).toList,u.oneCell'=true:=by
    intro u hu
    simp only [List.mem_cons,List.not_mem_nil,or_false]at hu
    subst hu;rfl
   go_wp2_with (at_builtin;go_must (refine wpList_append (w0:=w0) rFz _ _ _ rFz _ i _ Tryz.underlying100 hi hz0 hz1 rFz oQ rFz rFz hoc hb1.pick1 (rdsl_new _ _ _ 1 1 1 rFz) h63 hby ?_);intro v2 w2 hS2 hne)
   go_roundg todo'.length
   case measure=>omega
   case rel=>
    refine ⟨ks++[p.1],todo',left',rfl,Hl.out,?_,?_⟩
    ·refine List.Perm.trans ?_ Hperm.out
     rw [List.append_assoc]
     exact List.Perm.append_left ks (show List.Perm ((p::todo').map (·.1)) _ from (Hp.out.map (·.1)).symm)
    ·have:strs (ks++[p.1])=strs ks++[.string p.1]:=by simp [strs]
     rw [this]
     exact hS2.sel 3 [0,2] rfl rfl
theorem copied_c (h:Sat w0 w (omap .string b (mapL bs l)::F)) :
  Calls Tryz.prog 89 #[.map (some b)] w (Rtn fun v w'=>∃ b',v = .map (some b')∧Sat w0 w' (omap .string b' (mapL bs l)::omap .string b (mapL bs l)::F)):=by
 have hn:=mapL_keys h
 have hmm:=@run_makeMap Tryz.prog
 have h0:=h.omap_new .string
 have Hn:=uQ hn;clear hn
 go_enter Tryz.func89,Tryz.ntmps89
 go_wp2_with (at_range;go_must (refine wpList_range_sl rFz _ _ _ _ rFz Tryz.underlying155 rFz h0.pick1 ?_);intro r w1 hS)
 go_frame
 generalize w.heap.size=b' at *
 go_loopg [4,5] l.length (fun g _ _ wr=>∃ (done todo:Names) (left:List (Value×Value)),g=todo.length∧left.Perm (mapL bs todo)∧(done++todo).Perm l ∧
   Sat w0 wr (omap .string b' (mapL bs done)::rng .string b r (mapL bs l) left::F))
 case atStart=>exact ⟨[],l,_,rfl,List.Perm.refl _,List.Perm.refl _,hS.pick1⟩
 case round=>
  obtain ⟨done,todo,left,rfl,hleft,hperm,hS⟩:=hrel
  have Hleft:=uQ hleft
  have Hperm:=uQ hperm
  clear hleft hperm
  go_wp2_with (at_next;go_must (refine wpList_next_sl rFz _ rFz rFz hS.pick1 ?_ ?_))
  ·intro hnil
   have Hnil:=uQ hnil;clear hnil
   have h0:todo=[]:=by
    have:=Hleft.out
    rw [Hnil.out]at this
    simpa [mapL] using this.symm
   subst h0
   have hk:done.Perm l:=by simpa using Hperm.out
   have Hk:=uQ hk;clear hk
   go_wp2
   go_ret
   refine ⟨_,rfl,b',rfl,?_⟩
   exact ((hS.pick1.rng_done).pick1).omap_perm (mapL_perm Hk.out)
  ·intro k v left' w1 hp hS1 hen
   obtain ⟨p,todo',hp',rfl,rfl,hl'⟩:=mapL_pick (Hleft.out.symm.trans hp)
   have hlen2:todo.length=todo'.length+1:=by have:=hp'.length_eq;simpa using this
   have hkey:∀ x∈mapL bs done,x.1 ≠ .string p.1:=by
    intro x hx e
    obtain ⟨q,hq,rfl⟩:=List.mem_map.1 hx
    simp only [Value.string.injEq]at e
    have h1:=((Hperm.out.map (·.1)).nodup_iff.2 Hn.out)
    rw [List.map_append,List.nodup_append]at h1
    exact h1.2.2 q.1 (List.mem_map.2 ⟨q,hq,rfl⟩) p.1 (List.mem_map.2 ⟨p,hp'.mem_iff.2 (.head _),rfl⟩) e
   have hside:(mapL bs done).Perm (mapL bs done)∧(∀ x∈mapL bs done,x.1 ≠ .string p.1)∨∃ v0,(mapL bs done).Perm ((.string p.1,v0)::mapL bs done):= .inl ⟨List.Perm.refl _,hkey⟩
   have Hside:=uQ hside;clear hside hkey
   have Hp:=uQ hp'
   have Hl:=uQ hl'
   clear hp hp' hl'
   generalize hq:ptr (bs.getD p.2 0)=q at *
   have Hq:=uQ hq;clear hq
   go_wp2_with (at_mapUpdate;go_must (refine wpList_store (key:= .string p.1) rFz _ _ _ rFz Tryz.underlying155 Tryz.underlying9 rFz rFz rFz trivial hS1.pick1 _ Hside.out ?_);intro w2 hS2)
   go_roundg todo'.length
   case measure=>omega
   case rel=>
    refine ⟨p::done,todo',left',rfl,Hl.out,?_,?_⟩
    ·refine List.Perm.trans ?_ Hperm.out
     exact (List.perm_middle.symm).trans (List.Perm.append_left done Hp.out.symm)
    ·show Sat w0 _ (omap .string b' ((.string p.1,ptr (bs.getD p.2 0))::mapL bs done)::_)
     rw [Hq.out];exact hS2
end
section
variable {w0 w:World}{F:List HProp}{m fb nb b r:Nat}{M:Med}{bs:List Nat}{wv v bv:Value}{s:ByteArray}{l:Names}{fs:List Fil}{K:Nat}
theorem size_c (hM:M.Ok K) (h:Sat w0 w (MedRep m M::F)) (s:ByteArray) :
  Calls Tryz.prog 75 #[ptr m,.string s] w (Rtn fun v w'=>v = .tuple #[.int .i64 (M.size s).1,errno (M.size s).2]∧w=w'):=by
 obtain ⟨bs,fb,nb,wv,hl,hR⟩:=MedRep.open h
 cases ho:M.off
 ·cases hn:nget M.now s with
  |none=>
   have hf:=find_none (s:=s) hR ho hn
   have Hfin:Hid (M.size s=(0,9)):=by show _=_;simp [Med.size,ho,hn]
   clear ho hn
   go_enter Tryz.func75,Tryz.ntmps75
   go_wp2_with (go_at_call 136;refine hf.mono ?_;rintro e w1 ⟨v,rfl,rfl,rfl⟩)
   go_ret2
   exact ⟨_,rfl,by rw [Hfin.out];rfl,rfl⟩
  |some i=>
   have hf:=find_some (s:=s) hR ho hn
   have hid:i<M.files.length:=hM.nowOk.ids (s,i) (nget_mem hn)
   obtain ⟨fa,fn,fc,na,nc,wv',f0,f1,f2,_,_,_,hna⟩:=file_cells (hR.sel 3 [2] rfl rfl) hl hid
   have Hfin:Hid (M.size s=(((M.file i).now.length:Int),0)):=by show _=_;simp [Med.size,ho,hn]
   clear ho hn hna
   change w.cell? ⟨bs.getD i 0,1,none⟩=some (.slice na (M.file i).now.length nc) at f1
   generalize bs.getD i 0=q at *
   go_enter Tryz.func75,Tryz.ntmps75
   go_wp2_with (go_at_call 136;refine hf.mono ?_;rintro e w1 ⟨v,rfl,rfl,rfl⟩)
   go_ret2
   refine ⟨.tuple #[.int .i64 (M.file i).now.length,errno 0],rfl,?_,rfl⟩
   rw [Hfin.out]
 ·have hf:=find_off (s:=s) hR ho
  have Hfin:Hid (M.size s=(0,12)):=by show _=_;simp [Med.size,ho]
  clear ho
  go_enter Tryz.func75,Tryz.ntmps75
  go_wp2_with (go_at_call 136;refine hf.mono ?_;rintro e w1 ⟨v,rfl,rfl,rfl⟩)
  go_ret2
  exact ⟨_,rfl,by rw [Hfin.out];rfl,rfl⟩
theorem all_c (hM:M.Ok K) (h:Sat w0 w (MedRep m M::F)) (s:ByteArray) :
  Calls Tryz.prog 77 #[ptr m,.string s] w (Rtn fun v w'=>∃ bv,v = .tuple #[bv,errno (M.all s).2]∧Sat w0 w' (bsl bv (M.all s).1::MedRep m M::F)):=by
 obtain ⟨bs,fb,nb,wv,hl,hR⟩:=MedRep.open h
 cases ho:M.off
 ·cases hn:nget M.now s with
  |none=>
   have hf:=find_none (s:=s) hR ho hn
   have Hfin:Hid (M.all s=([],9)):=by show _=_;simp [Med.all,ho,hn]
   clear ho hn
   go_enter Tryz.func77,Tryz.ntmps77
   go_wp2_with (go_at_call 136;refine hf.mono ?_;rintro e w1 ⟨v,rfl,rfl,rfl⟩)
   go_ret2
   exact ⟨_,rfl,.slice none 0 0,by rw [Hfin.out];rfl,by rw [Hfin.out];exact Sat.osl_nil.2 h⟩
  |some i=>
   have hf:=find_some (s:=s) hR ho hn
   have hid:i<M.files.length:=hM.nowOk.ids (s,i) (nget_mem hn)
   obtain ⟨fa,fn,fc,na,nc,wv',f0,f1,f2,hrd,hcap,hnc,hna⟩:=file_cells (hR.sel 3 [2] rfl rfl) hl hid
   have hcl:=clone_c h hrd (by have:=(hM.file i).now_len;unfold Med.file at this;omega)
   have Hfin:Hid (M.all s=((M.file i).now,0)):=by show _=_;simp [Med.all,ho,hn]
   clear ho hn hrd hcap hnc hna
   change w.cell? ⟨bs.getD i 0,1,none⟩=some (.slice na (M.file i).now.length nc) at f1
   change Calls _ _ #[.slice na (M.file i).now.length nc] _ _ at hcl
   generalize bs.getD i 0=q at *
   go_enter Tryz.func77,Tryz.ntmps77
   go_wp2_with (first
    |(go_at_call 136;refine hf.mono ?_;rintro e w1 ⟨v,rfl,rfl,rfl⟩)
    |(go_at_call 100;refine hcl.mono ?_;rintro e w1 ⟨v,rfl,hS,_⟩))
   go_ret2
   exact ⟨_,rfl,v,by rw [Hfin.out];rfl,by rw [Hfin.out];exact hS⟩
 ·have hf:=find_off (s:=s) hR ho
  have Hfin:Hid (M.all s=([],12)):=by show _=_;simp [Med.all,ho]
  clear ho
  go_enter Tryz.func77,Tryz.ntmps77
  go_wp2_with (go_at_call 136;refine hf.mono ?_;rintro e w1 ⟨v,rfl,rfl,rfl⟩)
  go_ret2
  exact ⟨_,rfl,.slice none 0 0,by rw [Hfin.out];rfl,by rw [Hfin.out];exact Sat.osl_nil.2 h⟩
theorem rdsl_slice {a:Option Addr}{n c lo k:Nat}{xs:List Value} (h:rdsl 1 (.slice a n c) xs w) (hk:lo+k≤n) (x:Option Addr) (hx:x=if c=lo then a else a.map (·.add lo)) (hc:n≤c) (c':Nat):rdsl 1 (.slice x k c') ((xs.drop lo).take k) w:=by
 obtain ⟨a',n',c'',he,hl,hcell⟩:=h
 cases he
 rw [Nat.mul_one]at hl
 refine ⟨x,k,c',rfl,by simp;omega,fun i y hi=>?_⟩
 rw [List.getElem?_take]at hi
 split at hi
 ·rename_i hik
  rw [List.getElem?_drop]at hi
  obtain ⟨b,hb,hy⟩:=hcell _ y hi
  subst hb
  have:¬ c=lo:=by omega
  rw [if_neg this]at hx
  refine ⟨b.add lo,by simpa using hx,?_⟩
  have:(b.add lo).add i=b.add (lo+i):=by
   unfold Addr.add
   by_cases h1:lo=0
   ·subst h1;simp
   ·by_cases h2:i=0
    ·subst h2;simp
    ·simp [h1,h2];omega
  rw [this];exact hy
 ·cases hi
end
section
variable {w0 w:World}{F:List HProp}{m fb nb b r:Nat}{M:Med}{bs:List Nat}{wv v bv:Value}{s:ByteArray}{l:Names}{fs:List Fil}{K:Nat}
theorem new_yes (room:Nat) (hr:room≤16777216) (h:Sat w0 w F) :
  Calls Tryz.prog 46 #[.int .i64 room] w (Rtn fun v w'=>∃ m,v = .tuple #[ptr m,errno 0]∧Sat w0 w' (MedRep m (Med.new room)::F)):=by
 have h2:decide ((room:Int)<0)=false:=by rw [decide_eq_false_iff_not];omega
 have h3:decide (16777216<(room:Int))=false:=by rw [decide_eq_false_iff_not];omega
 have hmm:=@run_makeMap Tryz.prog
 have hA:=((h.omap_new .string).omap_new .string)
 have hB:=hA.alloc (.cells #[.int .i64 room,.map (some w.heap.size),.map (some (w.heap.size+1)),.slice none 0 0,.bool false,.int .i64 0,.bool false] 158)
 go_enter Tryz.func46,Tryz.ntmps46
 go_wp2
 go_ret2
 refine ⟨_,rfl,_,rfl,?_⟩
 refine MedRep.shut (bs:=[]) (fb:=w.heap.size) (nb:=w.heap.size+1) (wv:= .slice none 0 0) rfl ?_
 have h5:Sat w0 _ (osl 162 3 (.slice none 0 0) []::Sl.emp::_::_::_::F):=Sat.osl_nil.2 (Sat.emp.2 hB)
 simp only [World.size_alloc]at h5
 exact h5.sel 5 [2,3,1,4,0] rfl rfl
theorem list_c (hM:M.Ok K) (h:Sat w0 w (MedRep m M::F)) :
  Calls Tryz.prog 49 #[ptr m] w (Rtn fun v w'=>Sat w0 w' (osl 9 1 v (strs M.list)::MedRep m M::F)∧∃ a n c,v = .slice a n c):=by
 obtain ⟨bs,fb,nb,wv,hl,hR⟩:=MedRep.open h
 have hd:=dead_c hR
 have c2:=hR.cellAt 2 _ rfl
 cases ho:M.off
 ·rw [ho]at hd
  have hnm:=names_c (hR.sel 5 [1,0,2,3,4] rfl rfl) hM.nowOk.srt (by have:=hM.nowOk.len;omega)
  have Hfin:Hid (M.list=M.now.map (·.1)):=by show _=_;simp [Med.list,ho]
  clear ho
  go_enter Tryz.func49,Tryz.ntmps49
  go_wp2_with (first|(go_at_call 97;refine hd.mono ?_;rintro e w1 ⟨v,rfl,rfl,rfl⟩)|(go_at_call 91;go_must (refine hnm.mono ?_);rintro e w1 ⟨v,rfl,hS,a1,n1,k1,rfl⟩))
  go_ret
  refine ⟨_,rfl,?_,_,_,_,rfl⟩
  rw [Hfin.out]
  exact (MedRep.shut hl (hS.sel 6 [2,1,3,4,5,0] rfl rfl)).pick1
 ·rw [ho]at hd
  have Hfin:Hid (M.list=[]):=by show _=_;simp [Med.list,ho]
  clear ho
  go_enter Tryz.func49,Tryz.ntmps49
  go_wp2_with (go_at_call 97;refine hd.mono ?_;rintro e w1 ⟨v,rfl,rfl,rfl⟩)
  go_ret
  refine ⟨.slice none 0 0,rfl,?_,_,_,_,rfl⟩
  rw [Hfin.out]
  exact Sat.osl_nil.2 h
theorem arm_c (h:Sat w0 w (MedRep m M::F)) (n:Int) :
  Calls Tryz.prog 28 #[ptr m,.int .i64 n] w (Rtn fun v w'=>v=errno (M.arm n).2∧Sat w0 w' (MedRep m (M.arm n).1::F)):=by
 obtain ⟨bs,fb,nb,wv,hl,hR⟩:=MedRep.open h
 have hd:=dead_c hR
 have f4:=hR.freeAt 4
 have c4:=hR.cellAt 4 _ rfl
 have f5:=hR.freeAt 5
 have c5:=hR.cellAt 5 _ rfl
 cases ho:M.off
 ·rw [ho]at hd
  by_cases h1:n<0
  ·have Hfin:Hid (M.arm n=(M,2)):=by show _=_;simp [Med.arm,ho,h1]
   clear ho
   go_enter Tryz.func28,Tryz.ntmps28
   go_wp2_with (go_at_call 97;refine hd.mono ?_;rintro e w1 ⟨v,rfl,rfl,rfl⟩)
   go_ret
   exact ⟨errno 2,rfl,by rw [Hfin.out],by rw [Hfin.out];exact h⟩
  have h1':decide (n<0)=false:=by rw [decide_eq_false_iff_not];omega
  obtain ⟨n,rfl⟩:=Int.eq_ofNat_of_zero_le (show 0≤n by omega)
  have Hfin:Hid (M.arm n=({ M with armed:=true,left:=n },0)):=by show _=_;simp [Med.arm,ho,h1]
  clear ho
  go_enter Tryz.func28,Tryz.ntmps28
  go_wp2_with (go_at_call 97;refine hd.mono ?_;rintro e w1 ⟨v,rfl,rfl,rfl⟩)
  go_ret
  refine ⟨errno 0,rfl,by rw [Hfin.out],?_⟩
  rw [Hfin.out]
  refine MedRep.shut (bs:=bs) (fb:=fb) (nb:=nb) (wv:=wv) hl ?_
  exact (hR.set 4 (.bool true)).set 5 (.int .i64 n)
 ·rw [ho]at hd
  have Hfin:Hid (M.arm n=(M,12)):=by show _=_;simp [Med.arm,ho]
  clear ho
  go_enter Tryz.func28,Tryz.ntmps28
  go_wp2_with (go_at_call 97;refine hd.mono ?_;rintro e w1 ⟨v,rfl,rfl,rfl⟩)
  go_ret
  exact ⟨errno 12,rfl,by rw [Hfin.out],by rw [Hfin.out];exact h⟩
end
section
variable {w0 w:World}{F:List HProp}{m fb nb b r:Nat}{M:Med}{bs:List Nat}{wv v bv:Value}{s:ByteArray}{l:Names}{fs:List Fil}{K:Nat}
theorem getD_ext (bs:List Nat) (b i:Nat) (h:i<bs.length):(bs++[b]).getD i 0=bs.getD i 0:=by
 simp [List.getD_eq_getElem?_getD,List.getElem?_append_left h]
theorem mapL_ext (h:∀ p∈l,p.2<bs.length) (b:Nat):mapL (bs++[b]) l=mapL bs l:=by
 unfold mapL
 apply List.map_congr_left
 intro p hp
 rw [getD_ext bs b p.2 (h p hp)]
theorem lnks_ext {ws:List Lnk} (h:∀ x∈ws,x.to≠ByteArray.empty→x.f<bs.length) (b:Nat):ws.flatMap (lnkCells (bs++[b]))=ws.flatMap (lnkCells bs):=by
 induction ws with
 |nil=>rfl
 |cons x ws ih=>
  rw [List.flatMap_cons,List.flatMap_cons,ih fun y hy=>h y (.tail _ hy)]
  congr 1
  unfold lnkCells
  by_cases ht:x.to=ByteArray.empty
  ·simp [ht]
  ·simp only [if_neg ht]
   rw [getD_ext bs b x.f (h x (.head _) ht)]
theorem len_names (h:Sat w0 w (omap .string b (mapL bs l)::F)) (ty:TypeId):(Builtin.len_ #[155] ty #[.map (some b)]).run Tryz.prog w = .ok (.int .i64 l.length) w:=by
 have:=run_maplen (P:=Tryz.prog) Tryz.underlying155 ty h
 simpa [mapL] using this
theorem raw_step (h:Sat w0 w (medPt m M.step.1 fb nb wv::[omap .string nb (mapL bs M.now),filesRep bs M.files,omap .string fb (mapL bs M.fast),osl 162 3 wv (M.waits.flatMap (lnkCells bs))]++F)):Sat w0 w (MedRaw m M.step.1 bs fb nb wv++F):=by
 obtain ⟨e1,e2,e3,e4,e5⟩:=M.step_same
 unfold MedRaw
 rw [e2,e3,e4,e5]
 exact h
theorem FilRep_new (h:Sat w0 w (filPt b (.slice none 0 0) (.slice none 0 0) (.slice none 0 0)::F)):Sat w0 w (FilRep b Fil.new::F):=by
 refine FilRep.shut (fv:= .slice none 0 0) (nv:= .slice none 0 0) (wv:= .slice none 0 0) (ws:=[]) rfl ?_
 have h1:Sat w0 w (bsl (.slice none 0 0) []::bsl (.slice none 0 0) []::osl 241 3 (.slice none 0 0) []::chgs []::_):=Sat.osl_nil.2 (Sat.osl_nil.2 (Sat.osl_nil.2 (Sat.emp.2 h)))
 exact h1.sel 5 [4,0,1,2,3] rfl rfl
theorem create_link (hM:M.Ok K) (hK:K≤1099511627776) (hl:bs.length=M.files.length) (hs:s≠ByteArray.empty) (h:Sat w0 w (MedRaw m M bs fb nb wv++F)) :
  Calls Tryz.prog 137 #[ptr m,.agg #[.string { data:=#[] },.string s,ptr w.heap.size]] (w.alloc (.cells #[.slice none 0 0,.slice none 0 0,.slice none 0 0] 220))
   (Rtn fun _ w'=>Sat w0 w' (MedRep m (({ M with files:=M.files++[Fil.new] }:Med).link ⟨ByteArray.empty,s,M.files.length⟩)::F)):=by
 have h1:=h.alloc (.cells #[.slice none 0 0,.slice none 0 0,.slice none 0 0] 220)
 have h2:=FilRep_new h1
 generalize w.heap.size=q at *
 have e1:mapL (bs++[q]) M.now=mapL bs M.now:=mapL_ext (fun p hp=>by rw [hl];exact hM.nowOk.ids p hp) q
 have e2:mapL (bs++[q]) M.fast=mapL bs M.fast:=mapL_ext (fun p hp=>by rw [hl];exact hM.fastOk.ids p hp) q
 have e3:M.waits.flatMap (lnkCells (bs++[q]))=M.waits.flatMap (lnkCells bs):=lnks_ext (fun x hx ht=>by rw [hl];exact hM.links x hx ht) q
 have e4:filesRep (bs++[q]) (M.files++[Fil.new])=star (FilRep q Fil.new) (filesRep bs M.files):=files_snoc _ _ _ _ hl
 have h3:Sat w0 _ (FilRep q Fil.new::filesRep bs M.files::medPt m M fb nb wv::omap .string nb (mapL bs M.now)::osl 162 3 wv (M.waits.flatMap (lnkCells bs))::omap .string fb (mapL bs M.fast)::F):=h2.sel 6 [0,3,1,2,5,4] rfl rfl
 have h4:=Sat.star.2 h3
 rw [← e4,← e1,← e2,← e3]at h4
 have h5:=h4.sel 5 [1,2,3,0,4] rfl rfl
 have hlk:=link_c (M:={ M with files:=M.files++[Fil.new] }) (bs:=bs++[q]) ⟨ByteArray.empty,s,M.files.length⟩ h5 (Nat.le_trans hM.budget hK)
 have e5:lnkPtr (bs++[q]) ⟨ByteArray.empty,s,M.files.length⟩=ptr q:=by
  unfold lnkPtr
  rw [if_neg hs]
  simp [List.getD_eq_getElem?_getD,← hl]
 rw [e5]at hlk
 refine hlk.mono ?_
 rintro e w1 ⟨v,rfl,wv',hS⟩
 refine ⟨v,rfl,MedRep.shut (bs:=bs++[q]) (fb:=fb) (nb:=nb) (wv:=wv') (by simp [Med.link,hl]) ?_⟩
 exact hS.sel 5 [0,1,3,4,2] rfl rfl
theorem create_c (hM:M.Ok K) (hK:K≤1099511627776) (h:Sat w0 w (MedRep m M::F)) (s:ByteArray) (hs:s.size≤9223372036854775807) :
  Calls Tryz.prog 113 #[ptr m,.string s] w (Rtn fun v w'=>v=errno (M.create s).2∧Sat w0 w' (MedRep m (M.create s).1::F)):=by
 obtain ⟨bs,fb,nb,wv,hl,hR⟩:=MedRep.open h
 have hd:=dead_c hR
 have hg:=good_c s w hs
 have c2:=hR.cellAt 2 _ rfl
 cases ho:M.off
 ·rw [ho]at hd
  cases hgs:good s
  ·rw [hgs]at hg
   have Hfin:Hid (M.create s=(M,7)):=by show _=_;simp [Med.create,ho,hgs]
   clear ho hgs
   go_enter Tryz.func113,Tryz.ntmps113
   go_wp2_with (first|(go_at_call 97;refine hd.mono ?_;rintro e w1 ⟨v,rfl,rfl,rfl⟩)|(go_at_call 169;refine hg.mono ?_;rintro e w1 ⟨v,rfl,rfl,rfl⟩))
   go_ret
   exact ⟨errno 7,rfl,by rw [Hfin.out],by rw [Hfin.out];exact h⟩
  rw [hgs]at hg
  have hlk:=look_names (s:=s) (hR.pick1)
  cases hn:nget M.now s with
  |some i=>
   have Hfin:Hid (M.create s=(M,10)):=by show _=_;simp [Med.create,ho,hgs,hn]
   rw [fptr,hn]at hlk
   clear ho hgs hn
   simp only at hlk
   generalize bs.getD i 0=q at hlk
   go_enter Tryz.func113,Tryz.ntmps113
   go_wp2_with (first|(go_at_call 97;refine hd.mono ?_;rintro e w1 ⟨v,rfl,rfl,rfl⟩)|(go_at_call 169;refine hg.mono ?_;rintro e w1 ⟨v,rfl,rfl,rfl⟩))
   go_ret
   exact ⟨errno 10,rfl,by rw [Hfin.out],by rw [Hfin.out];exact h⟩
  |none=>
   rw [fptr,hn]at hlk
   simp only at hlk
   have hlen:=fun ty=>len_names (hR.pick1) ty
   by_cases h500:500≤(M.now.length:Int)
   ·have Hfin:Hid (M.create s=(M,16)):=by
     show _=_
     have:500≤M.now.length:=by omega
     simp [Med.create,ho,hgs,hn,this]
    clear ho hgs hn
    go_enter Tryz.func113,Tryz.ntmps113
    go_wp2_with (first|(go_at_call 97;refine hd.mono ?_;rintro e w1 ⟨v,rfl,rfl,rfl⟩)|(go_at_call 169;refine hg.mono ?_;rintro e w1 ⟨v,rfl,rfl,rfl⟩))
    go_ret
    exact ⟨errno 16,rfl,by rw [Hfin.out],by rw [Hfin.out];exact h⟩
   have h500':¬ 500≤M.now.length:=by omega
   have hb5:decide ((500:Int)≤(M.now.length:Int))=false:=by rw [decide_eq_false_iff_not];exact h500
   have hst:=step_c hR hM.left
   cases hstep:M.step.2
   ·rw [hstep]at hst
    have Hfin:Hid (M.create s=(M.step.1,12)):=by show _=_;simp [Med.create,ho,hgs,hn,h500',hstep]
    clear ho hgs hn hstep h500 h500'
    go_enter Tryz.func113,Tryz.ntmps113
    go_wp2_with (first|(go_at_call 97;refine hd.mono ?_;rintro e w1 ⟨v,rfl,rfl,rfl⟩)|(go_at_call 169;refine hg.mono ?_;rintro e w1 ⟨v,rfl,rfl,rfl⟩)|(go_at_call 132;refine hst.mono ?_;rintro e w1 ⟨v,rfl,rfl,hS1⟩))
    go_ret
    refine ⟨errno 12,rfl,by rw [Hfin.out],?_⟩
    rw [Hfin.out]
    exact MedRep.shut (bs:=bs) (fb:=fb) (nb:=nb) (wv:=wv) (by rw [M.step_same.2.2.2.1];exact hl) (raw_step hS1)
   ·rw [hstep]at hst
    have Hfin:Hid (M.create s=(({ M.step.1 with files:=M.files++[Fil.new] }:Med).link ⟨ByteArray.empty,s,M.files.length⟩,0)):=by show _=_;simp [Med.create,ho,hgs,hn,h500',hstep]
    have hne:=good_ne hgs
    clear ho hgs hn hstep h500 h500'
    have hl':bs.length=M.step.1.files.length:=by rw [M.step_same.2.2.2.1];exact hl
    have Hl':=uQ hl';clear hl'
    go_enter Tryz.func113,Tryz.ntmps113
    go_wp2_with (first|(go_at_call 97;refine hd.mono ?_;rintro e w1 ⟨v,rfl,rfl,rfl⟩)|(go_at_call 169;refine hg.mono ?_;rintro e w1 ⟨v,rfl,rfl,rfl⟩)|(go_at_call 132;refine hst.mono ?_;rintro e w1 ⟨v,rfl,rfl,hS1⟩)|(go_at_call 137;go_must (refine (create_link hM.step hK Hl'.out hne (raw_step hS1)).mono ?_);rintro e w2 ⟨v2,rfl,hS2⟩))
    go_ret
    refine ⟨errno 0,rfl,by rw [Hfin.out],?_⟩
    rw [Hfin.out]
    have e4:=M.step_same.2.2.2.1
    rw [e4]at hS2
    exact hS2
 ·rw [ho]at hd
  have Hfin:Hid (M.create s=(M,12)):=by show _=_;simp [Med.create,ho]
  clear ho
  go_enter Tryz.func113,Tryz.ntmps113
  go_wp2_with (go_at_call 97;refine hd.mono ?_;rintro e w1 ⟨v,rfl,rfl,rfl⟩)
  go_ret
  exact ⟨errno 12,rfl,by rw [Hfin.out],by rw [Hfin.out];exact h⟩
end
section
variable {w0 w:World}{F:List HProp}{m fb nb b r:Nat}{M:Med}{bs:List Nat}{wv v bv:Value}{s:ByteArray}{l:Names}{fs:List Fil}{K:Nat}
theorem raw_file (hl:bs.length=M.files.length){i:Nat} (hi:i<M.files.length) (h:Sat w0 w (MedRaw m M bs fb nb wv++F)) :
  ∃ G:HProp,Sat w0 w (FilRep (bs.getD i 0) (M.file i)::medPt m M fb nb wv::omap .string nb (mapL bs M.now)::omap .string fb (mapL bs M.fast)::osl 162 3 wv (M.waits.flatMap (lnkCells bs))::G::F) ∧
   ∀ (w':World) (f':Fil),Sat w0 w' (FilRep (bs.getD i 0) f'::medPt m M fb nb wv::omap .string nb (mapL bs M.now)::omap .string fb (mapL bs M.fast)::osl 162 3 wv (M.waits.flatMap (lnkCells bs))::G::F)→Sat w0 w' (MedRep m (M.setFile i f')::F):=by
 obtain ⟨G,h1,h2⟩:=files_take bs M.files i hl hi
 refine ⟨G,?_,fun w' f' h'=>?_⟩
 ·have h3:=h.sel 5 [2,0,1,3,4] rfl rfl
  have h4:Sat w0 w (filesRep bs M.files::medPt m M fb nb wv::omap .string nb (mapL bs M.now)::omap .string fb (mapL bs M.fast)::osl 162 3 wv (M.waits.flatMap (lnkCells bs))::F):=h3
  rw [h1]at h4
  exact (Sat.star.1 h4).sel 6 [0,2,3,4,5,1] rfl rfl
 ·refine MedRep.shut (bs:=bs) (fb:=fb) (nb:=nb) (wv:=wv) (by simp [Med.setFile,hl]) ?_
  have h4:Sat w0 w' (FilRep (bs.getD i 0) f'::G::medPt m M fb nb wv::omap .string nb (mapL bs M.now)::omap .string fb (mapL bs M.fast)::osl 162 3 wv (M.waits.flatMap (lnkCells bs))::F):=h'.sel 6 [0,5,1,2,3,4] rfl rfl
  have h5:=Sat.star.2 h4
  rw [← h2]at h5
  exact h5.sel 5 [1,2,0,3,4] rfl rfl
theorem sync_c (hM:M.Ok K) (h:Sat w0 w (MedRep m M::F)) (s:ByteArray) :
  Calls Tryz.prog 86 #[ptr m,.string s] w (Rtn fun v w'=>v=errno (M.sync s).2∧Sat w0 w' (MedRep m (M.sync s).1::F)):=by
 obtain ⟨bs,fb,nb,wv,hl,hR⟩:=MedRep.open h
 cases ho:M.off
 ·cases hn:nget M.now s with
  |none=>
   have hf:=find_none (s:=s) hR ho hn
   have Hfin:Hid (M.sync s=(M,9)):=by show _=_;simp [Med.sync,ho,hn]
   clear ho hn
   go_enter Tryz.func86,Tryz.ntmps86
   go_wp2_with (go_at_call 136;refine hf.mono ?_;rintro e w1 ⟨v,rfl,rfl,rfl⟩)
   go_ret
   exact ⟨errno 9,rfl,by rw [Hfin.out],by rw [Hfin.out];exact h⟩
  |some i=>
   have hf:=find_some (s:=s) hR ho hn
   have hid:i<M.files.length:=hM.nowOk.ids (s,i) (nget_mem hn)
   have hst:=step_c hR hM.left
   cases hstep:M.step.2
   ·rw [hstep]at hst
    have Hfin:Hid (M.sync s=(M.step.1,12)):=by show _=_;simp [Med.sync,ho,hn,hstep]
    clear ho hn hstep
    go_enter Tryz.func86,Tryz.ntmps86
    go_wp2_with (first|(go_at_call 136;refine hf.mono ?_;rintro e w1 ⟨v,rfl,rfl,rfl⟩)|(go_at_call 132;refine hst.mono ?_;rintro e w1 ⟨v,rfl,rfl,hS1⟩))
    go_ret
    refine ⟨errno 12,rfl,by rw [Hfin.out],?_⟩
    rw [Hfin.out]
    exact MedRep.shut (bs:=bs) (fb:=fb) (nb:=nb) (wv:=wv) (by rw [M.step_same.2.2.2.1];exact hl) (raw_step hS1)
   ·rw [hstep]at hst
    have Hfin:Hid (M.sync s=(M.step.1.setFile i (M.file i).sync,0)):=by show _=_;simp [Med.sync,ho,hn,hstep]
    clear ho hn hstep
    have hl':bs.length=M.step.1.files.length:=by rw [M.step_same.2.2.2.1];exact hl
    have hid':i<M.step.1.files.length:=by rw [M.step_same.2.2.2.1];exact hid
    have hfe:M.step.1.file i=M.file i:=by unfold Med.file;rw [M.step_same.2.2.2.1]
    have hnl:=(hM.file i).now_len
    have Hl':=uQ hl';have Hfe:=uQ hfe
    clear hl' hfe
    generalize hq:bs.getD i 0=q at hf
    have Hq:=uQ hq;clear hq
    go_enter Tryz.func86,Tryz.ntmps86
    go_wp2_with (first|(go_at_call 136;refine hf.mono ?_;rintro e w1 ⟨v,rfl,rfl,rfl⟩)|(go_at_call 132;fail))
    refine hst.mono ?_
    rintro e w1 ⟨v,rfl,rfl,hS1⟩
    obtain ⟨G,h1,h2⟩:=raw_file Hl'.out hid' (raw_step hS1)
    rw [Hfe.out,Hq.out]at h1
    rw [Hq.out]at h2
    obtain ⟨fv,nv,wv',ws,hws,h3⟩:=FilRep.open h1
    have H2:=uQ h2;clear h2 hS1 h1 hws
    have h4:Sat w0 w1 (filPt q fv nv wv'::bsl nv (M.file i).now::_):=h3.sel 3 [0,2] rfl rfl
    have c1:=h4.cellAt 1 _ rfl
    obtain ⟨na,nn,nc,rfl⟩:=bsl_shape h4.pick1
    have hcl:=clone_c h4 h4.pick1.rd oQ
    go_wp2_with (go_at_call 100;go_must (refine hcl.mono ?_);rintro e w2 ⟨v2,rfl,hS2,a2,n2,k2,rfl⟩;have g0:=hS2.pick1.freeAt 0;have g2:=hS2.pick1.freeAt 2;have d0:=hS2.pick1.cellAt 0 _ rfl;have d2:=hS2.pick1.cellAt 2 _ rfl)
    go_ret
    refine ⟨errno 0,rfl,by rw [Hfin.out],?_⟩
    rw [Hfin.out]
    refine H2.out _ _ ?_
    have h5:=(hS2.pick1.set 0 (.slice a2 n2 k2)).set 2 (.slice none 0 0)
    refine FilRep.shut (fv:= .slice a2 n2 k2) (nv:= .slice na nn nc) (wv:= .slice none 0 0) (ws:=[]) rfl ?_
    have h6:Sat w0 _ (osl 241 3 (.slice none 0 0) []::chgs []::_::_::_::osl _ _ _ _::chgs _::_):=Sat.osl_nil.2 (Sat.emp.2 h5)
    exact h6.sel 7 [2,3,4,0,1] rfl rfl
 ·have hf:=find_off (s:=s) hR ho
  have Hfin:Hid (M.sync s=(M,12)):=by show _=_;simp [Med.sync,ho]
  clear ho
  go_enter Tryz.func86,Tryz.ntmps86
  go_wp2_with (go_at_call 136;refine hf.mono ?_;rintro e w1 ⟨v,rfl,rfl,rfl⟩)
  go_ret
  exact ⟨errno 12,rfl,by rw [Hfin.out],by rw [Hfin.out];exact h⟩
end
section
variable {w0 w:World}{F:List HProp}{m fb nb b r:Nat}{M:Med}{bs:List Nat}{wv v bv:Value}{s:ByteArray}{l:Names}{fs:List Fil}{K:Nat}
theorem ro_len {lb:Bs} (hr:Ro w0 F (rdsl 1 bv (bys lb))){A:HProp} (h:Sat w0 w (A::F)):∃ a n c,bv = .slice a n c∧n=lb.length:=by
 obtain ⟨a,n,c,rfl,hl,_⟩:=hr w h.drop
 rw [bys_len,Nat.mul_one]at hl
 exact ⟨a,n,c,rfl,hl.symm⟩
theorem append_c (hM:M.Ok K) (hK:K≤1099511627776) (h:Sat w0 w (MedRep m M::F)) (s:ByteArray) (lb:Bs) (hr:Ro w0 F (rdsl 1 bv (bys lb))) :
  Calls Tryz.prog 130 #[ptr m,.string s,bv] w (Rtn fun v w'=>v=errno (M.append s lb).2∧Sat w0 w' (MedRep m (M.append s lb).1::F)):=by
 obtain ⟨bs,fb,nb,wv,hl,hR⟩:=MedRep.open h
 cases ho:M.off
 ·cases hn:nget M.now s with
  |none=>
   obtain ⟨ba,bn,bc,rfl,hbn⟩:=ro_len hr h
   clear hbn
   have hf:=find_none (s:=s) hR ho hn
   have Hfin:Hid (M.append s lb=(M,9)):=by show _=_;simp [Med.append,ho,hn]
   clear ho hn hr
   go_enter Tryz.func130,Tryz.ntmps130
   go_wp2_with (go_at_call 136;refine hf.mono ?_;rintro e w1 ⟨v,rfl,rfl,rfl⟩)
   go_ret
   exact ⟨errno 9,rfl,by rw [Hfin.out],by rw [Hfin.out];exact h⟩
  |some i=>
   have hf:=find_some (s:=s) hR ho hn
   have hid:i<M.files.length:=hM.nowOk.ids (s,i) (nget_mem hn)
   obtain ⟨ba,bn,bc,rfl,hbn⟩:=ro_len hr h
   have hu:=used_c (w:=w.drew) (m:=m) (M:=M) (fb:=fb) (nb:=nb) (wv:=wv) (bs:=bs) hR.drew hl hM.nowOk.ids (by have:=hM.used_le;omega)
   have hut:M.usedTold=M.used:=by simp [Med.usedTold,ho]
   rw [hut]at hu
   have hu2:=hM.used_le
   have hr2:=hM.room
   have c0:=hR.cellAt 0 _ rfl
   have Hr:=uQ hr;clear hr
   clear hut
   by_cases hfull:(M.room:Int) - M.used<lb.length
   ·have Hfin:Hid (M.append s lb=(M,11)):=by show _=_;simp [Med.append,ho,hn,hfull]
    clear ho hn
    subst hbn
    have hwr:IntKind.i64.wrap ((M.room:Int) - (M.used:Int))=(M.room:Int) - (M.used:Int):=IntWalk.i64_in _ oQ
    go_enter Tryz.func130,Tryz.ntmps130
    go_wp2_with (go_at_call 136;refine hf.mono ?_;rintro e w1 ⟨v,rfl,rfl,rfl⟩)
    refine wpL_begin [8,9] (fun w'=>w'.cell? ⟨m,0,none⟩=some (.int .i64 M.room)) kRz ?_
    have hG:=c0
    refine wpL_pure (i:=0) (v:=?_) rfl kRz (fun _ _ _ h=>h) (Or.inl ⟨by rfl,?_⟩) ?_;rotate_left;focus ((intro wq;go_simp);first|done|(with_reducible rfl))
    refine wpL_pure (i:=1) (v:=?_) rfl kRz (fun _ _ _ h=>h) (Or.inl ⟨by rfl,?_⟩) ?_;rotate_left;focus ((intro wq;go_simp);first|done|(with_reducible rfl))
    refine wpL_pure (i:=2) (v:=?_) rfl kRz (fun _ _ _ h=>h) (Or.inl ⟨by rfl,?_⟩) ?_;rotate_left;focus ((intro wq;go_simp);first|done|(with_reducible rfl))
    refine wpL_pure (i:=3) (v:=?_) rfl kRz (fun _ _ _ h=>h) (Or.inl ⟨by rfl,?_⟩) ?_;rotate_left;focus ((intro wq;go_simp);first|done|(with_reducible rfl))
    refine wpL_pure (i:=4) (v:=?_) rfl kRz (fun _ _ _ h=>h) (Or.inl ⟨by rfl,?_⟩) ?_;rotate_left;focus ((intro wq;go_simp);first|done|(with_reducible rfl))
    refine wpL_take (i:=5) (v:=?_) rfl kRz (fun _ _ _ h=>h) (Or.inl ⟨by rfl,?_⟩) aQ ?_;rotate_left;focus ((intro wq hq;go_split_ands;go_simp);first|done|(with_reducible rfl))
    refine wpL_pure (i:=6) (v:=?_) rfl kRz (fun _ _ _ h=>h) (Or.inl ⟨by rfl,?_⟩) ?_;rotate_left;focus ((intro wq;go_simp);first|done|(with_reducible rfl))
    refine wpL_eff (i:=7) rfl kRz (fun K hK=>?_)
    go_simp
    refine hu.mono ?_
    rintro e w1 ⟨v,rfl,rfl,hSu⟩
    refine hK _ _ (.inr (.inl (hSu.cellAt 0 _ rfl))) ?_
    clear hK K hG
    refine wpL_pure (i:=8) (v:=?_) rfl kRz (fun _ _ _ h=>h) (Or.inl ⟨by rfl,?_⟩) ?_;rotate_left;focus ((intro wq;go_simp);first|done|(with_reducible rfl))
    refine wpL_pure (i:=9) (v:=?_) rfl kRz (fun _ _ _ h=>h) (Or.inl ⟨by rfl,?_⟩) ?_;rotate_left;focus ((intro wq;go_simp);first|done|(with_reducible rfl))
    refine wpL_done kRz ?_
    clear hwr
    go_wp2
    go_ret
    exact ⟨errno 11,rfl,by rw [Hfin.out],by rw [Hfin.out];exact MedRep.shut hl hSu⟩
   have hfull':decide ((M.room:Int) - M.used<lb.length)=false:=by rw [decide_eq_false_iff_not];exact hfull
   cases hstep:M.step.2
   ·have Hfin:Hid (M.append s lb=(M.step.1,12)):=by show _=_;simp [Med.append,ho,hn,hfull,hstep]
    have Hs:=uQ hstep
    clear ho hn hstep hfull
    subst hbn
    have hwr:IntKind.i64.wrap ((M.room:Int) - (M.used:Int))=(M.room:Int) - (M.used:Int):=IntWalk.i64_in _ oQ
    go_enter Tryz.func130,Tryz.ntmps130
    go_wp2_with (go_at_call 136;refine hf.mono ?_;rintro e w1 ⟨v,rfl,rfl,rfl⟩)
    refine wpL_begin [8,9] (fun w'=>w'.cell? ⟨m,0,none⟩=some (.int .i64 M.room)) kRz ?_
    have hG:=c0
    refine wpL_pure (i:=0) (v:=?_) rfl kRz (fun _ _ _ h=>h) (Or.inl ⟨by rfl,?_⟩) ?_;rotate_left;focus ((intro wq;go_simp);first|done|(with_reducible rfl))
    refine wpL_pure (i:=1) (v:=?_) rfl kRz (fun _ _ _ h=>h) (Or.inl ⟨by rfl,?_⟩) ?_;rotate_left;focus ((intro wq;go_simp);first|done|(with_reducible rfl))
    refine wpL_pure (i:=2) (v:=?_) rfl kRz (fun _ _ _ h=>h) (Or.inl ⟨by rfl,?_⟩) ?_;rotate_left;focus ((intro wq;go_simp);first|done|(with_reducible rfl))
    refine wpL_pure (i:=3) (v:=?_) rfl kRz (fun _ _ _ h=>h) (Or.inl ⟨by rfl,?_⟩) ?_;rotate_left;focus ((intro wq;go_simp);first|done|(with_reducible rfl))
    refine wpL_pure (i:=4) (v:=?_) rfl kRz (fun _ _ _ h=>h) (Or.inl ⟨by rfl,?_⟩) ?_;rotate_left;focus ((intro wq;go_simp);first|done|(with_reducible rfl))
    refine wpL_take (i:=5) (v:=?_) rfl kRz (fun _ _ _ h=>h) (Or.inl ⟨by rfl,?_⟩) aQ ?_;rotate_left;focus ((intro wq hq;go_split_ands;go_simp);first|done|(with_reducible rfl))
    refine wpL_pure (i:=6) (v:=?_) rfl kRz (fun _ _ _ h=>h) (Or.inl ⟨by rfl,?_⟩) ?_;rotate_left;focus ((intro wq;go_simp);first|done|(with_reducible rfl))
    refine wpL_eff (i:=7) rfl kRz (fun K hK=>?_)
    go_simp
    refine hu.mono ?_
    rintro e w1 ⟨v,rfl,rfl,hSu⟩
    refine hK _ _ (.inr (.inl (hSu.cellAt 0 _ rfl))) ?_
    clear hK K hG
    refine wpL_pure (i:=8) (v:=?_) rfl kRz (fun _ _ _ h=>h) (Or.inl ⟨by rfl,?_⟩) ?_;rotate_left;focus ((intro wq;go_simp);first|done|(with_reducible rfl))
    refine wpL_pure (i:=9) (v:=?_) rfl kRz (fun _ _ _ h=>h) (Or.inl ⟨by rfl,?_⟩) ?_;rotate_left;focus ((intro wq;go_simp);first|done|(with_reducible rfl))
    refine wpL_done kRz ?_
    clear hwr
    have hst:=step_c hSu hM.left
    rw [Hs.out]at hst
    go_wp2_with (go_at_call 132;refine hst.mono ?_;rintro e w2 ⟨v,rfl,rfl,hS1⟩)
    go_ret
    refine ⟨errno 12,rfl,by rw [Hfin.out],?_⟩
    rw [Hfin.out]
    exact MedRep.shut (bs:=bs) (fb:=fb) (nb:=nb) (wv:=wv) (by rw [M.step_same.2.2.2.1];exact hl) (raw_step hS1)
   ·have Hfin:Hid (M.append s lb=(M.step.1.setFile i ((M.file i).do ⟨false,0,lb⟩),0)):=by show _=_;simp [Med.append,ho,hn,hfull,hstep]
    have Hs:=uQ hstep
    have hfe:M.step.1.file i=M.file i:=by unfold Med.file;rw [M.step_same.2.2.2.1]
    have hokf:=hM.file i
    have hbig:lb.length≤16777216:=by omega
    clear ho hn hstep hfull
    subst hbn
    generalize hq:bs.getD i 0=q at hf
    have Hq:=uQ hq;clear hq
    have Hfe:=uQ hfe;clear hfe
    have Hok:=uQ hokf;clear hokf
    have hwr:IntKind.i64.wrap ((M.room:Int) - (M.used:Int))=(M.room:Int) - (M.used:Int):=IntWalk.i64_in _ oQ
    go_enter Tryz.func130,Tryz.ntmps130
    go_wp2_with (go_at_call 136;refine hf.mono ?_;rintro e w1 ⟨v,rfl,rfl,rfl⟩)
    refine wpL_begin [8,9] (fun w'=>w'.cell? ⟨m,0,none⟩=some (.int .i64 M.room)) kRz ?_
    have hG:=c0
    refine wpL_pure (i:=0) (v:=?_) rfl kRz (fun _ _ _ h=>h) (Or.inl ⟨by rfl,?_⟩) ?_;rotate_left;focus ((intro wq;go_simp);first|done|(with_reducible rfl))
    refine wpL_pure (i:=1) (v:=?_) rfl kRz (fun _ _ _ h=>h) (Or.inl ⟨by rfl,?_⟩) ?_;rotate_left;focus ((intro wq;go_simp);first|done|(with_reducible rfl))
    refine wpL_pure (i:=2) (v:=?_) rfl kRz (fun _ _ _ h=>h) (Or.inl ⟨by rfl,?_⟩) ?_;rotate_left;focus ((intro wq;go_simp);first|done|(with_reducible rfl))
    refine wpL_pure (i:=3) (v:=?_) rfl kRz (fun _ _ _ h=>h) (Or.inl ⟨by rfl,?_⟩) ?_;rotate_left;focus ((intro wq;go_simp);first|done|(with_reducible rfl))
    refine wpL_pure (i:=4) (v:=?_) rfl kRz (fun _ _ _ h=>h) (Or.inl ⟨by rfl,?_⟩) ?_;rotate_left;focus ((intro wq;go_simp);first|done|(with_reducible rfl))
    refine wpL_take (i:=5) (v:=?_) rfl kRz (fun _ _ _ h=>h) (Or.inl ⟨by rfl,?_⟩) aQ ?_;rotate_left;focus ((intro wq hq;go_split_ands;go_simp);first|done|(with_reducible rfl))
    refine wpL_pure (i:=6) (v:=?_) rfl kRz (fun _ _ _ h=>h) (Or.inl ⟨by rfl,?_⟩) ?_;rotate_left;focus ((intro wq;go_simp);first|done|(with_reducible rfl))
    refine wpL_eff (i:=7) rfl kRz (fun K hK=>?_)
    go_simp
    refine hu.mono ?_
    rintro e w1 ⟨v,rfl,rfl,hSu⟩
    refine hK _ _ (.inr (.inl (hSu.cellAt 0 _ rfl))) ?_
    clear hK K hG
    refine wpL_pure (i:=8) (v:=?_) rfl kRz (fun _ _ _ h=>h) (Or.inl ⟨by rfl,?_⟩) ?_;rotate_left;focus ((intro wq;go_simp);first|done|(with_reducible rfl))
    refine wpL_pure (i:=9) (v:=?_) rfl kRz (fun _ _ _ h=>h) (Or.inl ⟨by rfl,?_⟩) ?_;rotate_left;focus ((intro wq;go_simp);first|done|(with_reducible rfl))
    refine wpL_done kRz ?_
    clear hwr
    have hst:=step_c hSu hM.left
    rw [Hs.out]at hst
    go_wp2_with (go_at_call 132;fail)
    refine hst.mono ?_
    rintro e w2 ⟨v,rfl,rfl,hS1⟩
    have hl':bs.length=M.step.1.files.length:=by rw [M.step_same.2.2.2.1];exact hl
    have hid':i<M.step.1.files.length:=by rw [M.step_same.2.2.2.1];exact hid
    obtain ⟨G,h1,h2⟩:=raw_file hl' hid' (raw_step hS1)
    rw [Hfe.out,Hq.out]at h1
    rw [Hq.out]at h2
    have hrd:=Hr.out w2 (h1.sel 6 [] rfl rfl)
    have hcl:=clone_c h1 hrd oQ
    go_wp2_with (go_at_call 100;fail)
    refine hcl.mono ?_
    rintro e w3 ⟨v2,rfl,hS2,a2,n2,k2,rfl⟩
    obtain ⟨fv,nv,wv',ws,hws,h3⟩:=FilRep.open hS2.pick1
    have hdo:=do_c (bv:= .slice a2 n2 k2) ⟨false,0,lb⟩ (h3.sel 6 [0,1,2,3,4,5] rfl rfl) hws ⟨(fun h=>by cases h),fun _=>by have:=Hok.out.now_len;simp only;omega⟩ (Nat.le_trans Hok.out.budget hK)
    clear h3 hws hst hcl hrd h1 hu
    go_wp2_with (go_at_call 183;go_must (refine hdo.mono ?_);rintro e w4 ⟨v4,rfl,hS4⟩)
    go_ret
    refine ⟨errno 0,rfl,by rw [Hfin.out],?_⟩
    rw [Hfin.out]
    exact h2 _ _ hS4
 ·obtain ⟨ba,bn,bc,rfl,hbn⟩:=ro_len hr h
  clear hbn
  have hf:=find_off (s:=s) hR ho
  have Hfin:Hid (M.append s lb=(M,12)):=by show _=_;simp [Med.append,ho]
  clear ho hr
  go_enter Tryz.func130,Tryz.ntmps130
  go_wp2_with (go_at_call 136;refine hf.mono ?_;rintro e w1 ⟨v,rfl,rfl,rfl⟩)
  go_ret
  exact ⟨errno 12,rfl,by rw [Hfin.out],by rw [Hfin.out];exact h⟩
theorem syncDir_c (hM:M.Ok K) (h:Sat w0 w (MedRep m M::F)) :
  Calls Tryz.prog 66 #[ptr m] w (Rtn fun v w'=>v=errno M.syncDir.2∧Sat w0 w' (MedRep m M.syncDir.1::F)):=by
 obtain ⟨bs,fb,nb,wv,hl,hR⟩:=MedRep.open h
 have hd:=dead_c hR
 cases ho:M.off
 ·rw [ho]at hd
  have hst:=step_c hR hM.left
  cases hstep:M.step.2
  ·rw [hstep]at hst
   have Hfin:Hid (M.syncDir=(M.step.1,12)):=by show _=_;simp [Med.syncDir,ho,hstep]
   clear ho hstep
   go_enter Tryz.func66,Tryz.ntmps66
   go_wp2_with (first|(go_at_call 97;refine hd.mono ?_;rintro e w1 ⟨v,rfl,rfl,rfl⟩)|(go_at_call 132;refine hst.mono ?_;rintro e w1 ⟨v,rfl,rfl,hS1⟩))
   go_ret
   refine ⟨errno 12,rfl,by rw [Hfin.out],?_⟩
   rw [Hfin.out]
   exact MedRep.shut (bs:=bs) (fb:=fb) (nb:=nb) (wv:=wv) (by rw [M.step_same.2.2.2.1];exact hl) (raw_step hS1)
  ·rw [hstep]at hst
   have Hfin:Hid (M.syncDir=({ M.step.1 with fast:=M.now,waits:=[] },0)):=by show _=_;simp [Med.syncDir,ho,hstep]
   clear ho hstep
   go_enter Tryz.func66,Tryz.ntmps66
   go_wp2_with (first|(go_at_call 97;refine hd.mono ?_;rintro e w1 ⟨v,rfl,rfl,rfl⟩)|(go_at_call 132;fail))
   refine hst.mono ?_
   rintro e w1 ⟨v,rfl,rfl,hS1⟩
   have c2:=hS1.cellAt 2 _ rfl
   have hcp:=copied_c hS1.pick1
   go_wp2_with (go_at_call 89;go_must (refine hcp.mono ?_);rintro e w2 ⟨v,rfl,b',rfl,hS2⟩;have d1:=hS2.pick2.cellAt 1 _ rfl;have d3:=hS2.pick2.cellAt 3 _ rfl;have g1:=hS2.pick2.freeAt 1;have g3:=hS2.pick2.freeAt 3)
   go_ret
   refine ⟨errno 0,rfl,by rw [Hfin.out],?_⟩
   rw [Hfin.out]
   have h5:=(hS2.pick2.set 1 (.map (some b'))).set 3 (.slice none 0 0)
   obtain ⟨e1,e2,e3,e4,e5⟩:=M.step_same
   refine MedRep.shut (bs:=bs) (fb:=b') (nb:=nb) (wv:= .slice none 0 0) (by simp only [e4];exact hl) ?_
   have h6:Sat w0 _ (osl 162 3 (.slice none 0 0) []::_::_::_::_::_::osl _ _ _ _::F):=Sat.osl_nil.2 h5
   unfold MedRaw
   simp only [e3,e4]
   exact h6.sel 7 [1,3,4,2,0] rfl rfl
 ·rw [ho]at hd
  have Hfin:Hid (M.syncDir=(M,12)):=by show _=_;simp [Med.syncDir,ho]
  clear ho
  go_enter Tryz.func66,Tryz.ntmps66
  go_wp2_with (go_at_call 97;refine hd.mono ?_;rintro e w1 ⟨v,rfl,rfl,rfl⟩)
  go_ret
  exact ⟨errno 12,rfl,by rw [Hfin.out],by rw [Hfin.out];exact h⟩
end
section
variable {w0 w:World}{F:List HProp}{m fb nb b r:Nat}{M:Med}{bs:List Nat}{wv v bv:Value}{s:ByteArray}{l:Names}{fs:List Fil}{K:Nat}{f:Fil}
theorem chgs_take:∀ (ws:List (Chg×Value)) (i:Nat) (p:Chg×Value),ws[i]?=some p→∃ G:HProp,chgs ws=star (bsl p.2 p.1.b) G
 |[],_,_,h=>by cases h
 |q::ws,0,p,h=>by
  simp at h;subst h
  exact ⟨chgs ws,rfl⟩
 |q::ws,i+1,p,h=>by
  obtain ⟨G,hG⟩:=chgs_take ws i p (by simpa using h)
  refine ⟨star (bsl q.2 q.1.b) G,?_⟩
  show star (bsl q.2 q.1.b) (chgs ws)=_
  rw [hG,star_left_comm]
theorem chg_cells (ws:List (Chg×Value)) (i:Nat) (p:Chg×Value) (h:ws[i]?=some p) :
  (ws.flatMap chgCells)[i * 3]?=some (.bool p.1.cut)∧(ws.flatMap chgCells)[i * 3+1]?=some (.int .i64 p.1.n)∧(ws.flatMap chgCells)[i * 3+2]?=some p.2:=by
 induction ws generalizing i with
 |nil=>cases h
 |cons q ws ih=>
  cases i with
  |zero=>simp at h;subst h;exact ⟨rfl,rfl,rfl⟩
  |succ i=>
   obtain ⟨h1,h2,h3⟩:=ih i (by simpa using h)
   have e:∀ j,(List.flatMap chgCells (q::ws))[(i+1) * 3+j]?=(List.flatMap chgCells ws)[i * 3+j]?:=by
    intro j
    rw [List.flatMap_cons,List.getElem?_append_right (by simp [chgCells];omega)]
    congr 1
    simp [chgCells];omega
   exact ⟨(e 0).trans h1,(e 1).trans h2,(e 2).trans h3⟩
theorem waits_cells {ws:List (Chg×Value)}{g n cap:Nat} (h:Sat w0 w (osl 241 3 (.slice (some ⟨g,0,none⟩) n cap) (ws.flatMap chgCells)::F)){i:Nat}{p:Chg×Value} (hi:ws[i]?=some p) :
  w.cell? ⟨g,i * 3,none⟩=some (.bool p.1.cut)∧w.cell? ⟨g,i * 3+1,none⟩=some (.int .i64 p.1.n)∧w.cell? ⟨g,i * 3+2,none⟩=some p.2:=by
 obtain ⟨h1,h2,h3⟩:=chg_cells ws i p hi
 rcases h.osl_cases with ⟨he,_⟩|⟨b,n',cap',cs,he,hl,hn,hc,hcm,htk,hp⟩
 ·cases he
 ·cases he
  exact ⟨hp.cellAt _ _ (take_get htk h1),hp.cellAt _ _ (take_get htk h2),hp.cellAt _ _ (take_get htk h3)⟩
theorem rdsl_take {ba:Option Addr}{n c:Nat}{cb:Bs} (h:rdsl 1 (.slice ba n c) (bys cb) w){T:Nat} (hT:T≤n) (c':Nat):rdsl 1 (.slice ba T c') (bys (cb.take T)) w:=by
 obtain ⟨a,n',c'',he,hl,hc⟩:=h
 cases he
 rw [bys_len,Nat.mul_one]at hl
 refine ⟨ba,T,c',rfl,by rw [bys_len,List.length_take];omega,fun i x hi=>?_⟩
 rw [bys_take,List.getElem?_take]at hi
 split at hi
 ·exact hc i x hi
 ·cases hi
theorem crashF_c (hf:f.Ok K) (hK:K≤1099511627776) (h:Sat w0 w (FilRep b f::F)) (whole torn:Int) (hw : -9223372036854775808≤whole∧whole≤9223372036854775807) (ht : -9223372036854775808≤torn∧torn≤9223372036854775807) :
  Calls Tryz.prog 92 #[ptr b,.int .i64 whole,.int .i64 torn] w (Rtn fun _ w'=>Sat w0 w' (FilRep b (f.crash whole torn)::F)):=by
 obtain ⟨fv,nv,wv,ws,hws,hR⟩:=FilRep.open h
 obtain ⟨fa,fn,fc,rfl⟩:=bsl_shape (hR.sel 2 [1] rfl rfl)
 obtain ⟨na,nn,nc,rfl⟩:=bsl_shape (hR.sel 3 [2] rfl rfl)
 have hO:=hR.sel 4 [3] rfl rfl
 obtain ⟨wa,wn,wc,rfl,hwn,_⟩:=id hO.rd
 have c0:=hR.cellAt 0 _ rfl
 have c1:=hR.cellAt 1 _ rfl
 have c2:=hR.cellAt 2 _ rfl
 have hwl:ws.length=f.waits.length:=by rw [← hws];simp
 have hlen:(ws.flatMap chgCells).length=f.waits.length * 3:=by
  rw [List.length_flatMap,← hwl];simp [chgCells,List.map_const']
 have hwn':wn=f.waits.length:=by omega
 have hcapO:wn≤wc∧wc≤9223372036854775807:=by
  rcases hO.osl_cases with ⟨he,_⟩|⟨b,n',cap',cs,he,_,hn,_,hcm,_,_⟩
  ·cases he;omega
  ·cases he;exact ⟨hn,hcm⟩
 obtain ⟨hc1,hc2⟩:=hcapO
 obtain ⟨N,hNd⟩:∃ N,N=clampN whole wn:=⟨_,rfl⟩
 have hNle:N≤wn:=by rw [hNd];exact clampN_le _ _
 have hN:min (max whole 0) (wn:Int)=(N:Int):=by rw [hNd];unfold clampN;omega
 have hbud:=hf.budget
 have hNc:(N:Int)≤(wc:Int):=by omega
 have hN0:(0:Int)≤(N:Int):=by omega
 subst hwn'
 have Hwl:=uQ hwl;have Hws:=uQ hws;have HNd:=uQ hNd;have Hf:=uQ hf;have HO:=uQ hO
 clear hwl hws hNd hf hlen hwn hO
 go_enter Tryz.func92,Tryz.ntmps92
 go_wp2
 go_loopg [6,29] N (fun g bq iq wr=>∃ (k:Nat) (xa:Option Addr) (xn xc:Nat),g=N - k∧k≤N∧iq = .int .i64 k∧bq = .slice xa xn xc ∧
  Sat w0 wr (bsl (.slice xa xn xc) (f.at k)::filPt b (.slice fa fn fc) (.slice na nn nc) (.slice wa f.waits.length wc)::osl 241 3 (.slice wa f.waits.length wc) (ws.flatMap chgCells)::chgs ws::F))
 case atStart=>exact ⟨0,fa,fn,fc,rfl,Nat.zero_le _,rfl,rfl,hR.sel 5 [1,0,3,4] rfl rfl⟩
 case round=>
  obtain ⟨k,xa,xn,xc,rfl,hkN,rfl,rfl,hS⟩:=hrel
  by_cases hk:k<N
  ·obtain ⟨p,hp⟩:∃ p,ws[k]?=some p:=⟨ws[k]'(by have:=Hwl.out;omega),List.getElem?_eq_getElem _⟩
   have hpw:f.waits[k]?=some p.1:=by rw [← Hws.out,List.getElem?_map,hp];rfl
   obtain ⟨G,hG⟩:=chgs_take ws k p hp
   have hS':=hS
   rw [hG]at hS'
   have hS2:Sat w0 wr (bsl p.2 p.1.b::G::bsl (.slice xa xn xc) (f.at k)::filPt b (.slice fa fn fc) (.slice na nn nc) (.slice wa f.waits.length wc)::osl 241 3 (.slice wa f.waits.length wc) (ws.flatMap chgCells)::F):=Sat.star.1 hS'.pick3
   obtain ⟨ba,bn,bc,hpb⟩:=bsl_shape hS2
   have hok:chgOk p.1 (f.at k):=by
    refine ⟨fun hc=>Hf.out.cuts k p.1 hpw hc,fun hc=>?_⟩
    have h1:=Hf.out.size (k+1) oQ
    rw [f.at_succ k p.1 hpw]at h1
    simp only [Chg.on,hc]at h1
    simp at h1;omega
   have hsucc:f.at (k+1)=p.1.on (f.at k):=f.at_succ k p.1 hpw
   have hshape:∃ g,wa=some ⟨g,0,none⟩:=by
    rcases (Sat.osl_cases HO.out) with ⟨he,hx,_⟩|⟨g,n',cap',cs,he,_⟩
    ·have:=(Value.slice.inj he).2.1;omega
    ·exact ⟨g,(Value.slice.inj he).1⟩
   obtain ⟨g,rfl⟩:=hshape
   obtain ⟨w0',w1',w2'⟩:=waits_cells (hS2.sel 5 [4] rfl rfl) hp
   obtain ⟨⟨cut,cn,cb⟩,pv⟩:=p
   simp only at hpb hS2 hok hsucc w0' w1' w2' hG
   subst hpb
   have hb:Sat w0 (wr.alloc (.cells #[.bool cut,.int .i64 cn,.slice ba bn bc] 241)) _:=hS2.alloc _
   have e0:=hb.cellAt 0 _ rfl
   have e1:=hb.cellAt 1 _ rfl
   have e2:=hb.cellAt 2 _ rfl
   have hon:=chgon_c (bv:= .slice ba bn bc) ⟨cut,cn,cb⟩ (hb.sel 4 [3,1,2] rfl rfl) (fun w hw=>Sat.rd hw) ⟨_,_,_,rfl⟩ hok
   have Hsucc:=uQ hsucc;have HG:=uQ hG
   clear hsucc hG hok hpw hp hS'
   unfold chgV at hon
   have hkc:(k:Int)<(N:Int):=by omega
   go_wp2_with (go_at_call 154;go_must (refine hon.mono ?_);rintro e w2 ⟨v2,rfl,hS3,a3,n3,k3,rfl⟩)
   go_roundg (N - (k+1))
   case measure=>omega
   case rel=>
    refine ⟨k+1,a3,n3,k3,rfl,by omega,by go_num,rfl,?_⟩
    rw [Hsucc.out]
    have h9:Sat w0 _ (bsl _ cb::G::bsl _ _::filPt b _ _ _::osl _ _ _ _::F):=hS3.sel 3 [1,2,0] rfl rfl
    have h10:=Sat.star.2 h9
    rw [← HG.out]at h10
    exact h10.sel 4 [1,2,3,0] rfl rfl
  ·obtain rfl:k=N:=by omega
   have hatl:=Hf.out.size k hNle
   have hleft:f.left whole torn=match f.waits[k]? with|some c=>if c.cut then f.at k else f.at k++c.b.take (clampN torn c.b.length)|none=>f.at k:=by
    unfold Fil.left;rw [← HNd.out];rfl
   have Hl0:=uQ hleft;clear hleft
   by_cases hlt:k<f.waits.length
   ·obtain ⟨p,hp⟩:∃ p,ws[k]?=some p:=⟨ws[k]'(by have:=Hwl.out;omega),List.getElem?_eq_getElem _⟩
    have hpw:f.waits[k]?=some p.1:=by rw [← Hws.out,List.getElem?_map,hp];rfl
    obtain ⟨G,hG⟩:=chgs_take ws k p hp
    have hS':=hS
    rw [hG]at hS'
    have hS2:Sat w0 wr (bsl p.2 p.1.b::G::bsl (.slice xa xn xc) (f.at k)::filPt b (.slice fa fn fc) (.slice na nn nc) (.slice wa f.waits.length wc)::osl 241 3 (.slice wa f.waits.length wc) (ws.flatMap chgCells)::F):=Sat.star.1 hS'.pick3
    obtain ⟨ba,bn,bc,hpb⟩:=bsl_shape hS2
    have hshape:∃ g,wa=some ⟨g,0,none⟩:=by
     rcases (Sat.osl_cases HO.out) with ⟨he,hx,_⟩|⟨g,n',cap',cs,he,_⟩
     ·have:=(Value.slice.inj he).2.1;omega
     ·exact ⟨g,(Value.slice.inj he).1⟩
    obtain ⟨g,rfl⟩:=hshape
    obtain ⟨w0',w1',w2'⟩:=waits_cells (hS2.sel 5 [4] rfl rfl) hp
    have d2:=hS2.pick3.cellAt 2 _ rfl
    have hnext:=Hf.out.size (k+1) oQ
    rw [f.at_succ k p.1 hpw]at hnext
    obtain ⟨⟨cut,cn,cb⟩,pv⟩:=p
    simp only at hpb hS2 w0' w1' w2' hG hpw hnext
    subst hpb
    have hkc:(k:Int)<(f.waits.length:Int):=by omega
    have Hhn:=uQ hnext;clear hnext
    clear hG hS' hp
    cases cut
    ·have hbcap:bn≤bc∧bc≤9223372036854775807∧bn=cb.length:=by
      rcases hS2.osl_cases with ⟨he,hx,_⟩|⟨b,n',cap',cs,he,hl,hn,_,hcm,_,_⟩
      ·cases he;have:(bys cb).length=0:=by rw [hx];rfl
       rw [bys_len]at this;omega
      ·cases he;rw [bys_len]at hl;exact ⟨hn,hcm,by omega⟩
     obtain ⟨hb1,hb2,rfl⟩:=hbcap
     obtain ⟨T,hTd⟩:∃ T,T=clampN torn cb.length:=⟨_,rfl⟩
     have hTle:T≤cb.length:=by rw [hTd];exact clampN_le _ _
     have hT:min (max torn 0) (cb.length:Int)=(T:Int):=by rw [hTd];unfold clampN;omega
     have hTc:(T:Int)≤(bc:Int):=by omega
     have hT0:(0:Int)≤(T:Int):=by omega
     have hleft:f.left whole torn=f.at k++cb.take T:=by rw [Hl0.out,hpw,hTd];rfl
     have Hleft:=uQ hleft
     clear hleft hTd hpw
     have hnext:=Hhn.out
     simp only [Chg.on,Bool.false_eq_true,if_false,List.length_append]at hnext
     obtain ⟨i,hi,hz0,hz1,hz2⟩:=info8p
     have hb:Sat w0 (wr.alloc (.cells #[.bool false,.int .i64 cn,.slice ba cb.length bc] 241)) _:=hS2.alloc _
     have e2:=hb.cellAt 2 _ rfl
     have hcl:=clone_c hb.drew (hb.drew.pick3.rd) oQ
     have h63:(bys (f.at k)).length+(bys (cb.take T)).length≤maxLen:=by rw [bys_len,bys_len,List.length_take];unfold maxLen;omega
     have hby:((bys (f.at k)).length+(bys (cb.take T)).length) * i.bytes≤140737488355328:=by rw [bys_len,bys_len,List.length_take,hz2];omega
     go_wp2
     refine wpL_begin [11,12] (fun w'=>w'.cell? ⟨wr.heap.size,2,none⟩=some (.slice ba cb.length bc)) kRz ?_
     have hG:=e2
     refine wpL_pure (i:=0) (v:=?_) rfl kRz (fun _ _ _ h=>h) (Or.inl ⟨by rfl,?_⟩) ?_;rotate_left;focus ((intro wq;go_simp);first|done|(with_reducible rfl))
     refine wpL_pure (i:=2) (v:=?_) rfl kRz (fun _ _ _ h=>h) (Or.inl ⟨by rfl,?_⟩) ?_;rotate_left;focus ((intro wq;go_simp);first|done|(with_reducible rfl))
     refine wpL_take (i:=3) (v:=?_) rfl kRz (fun _ _ _ h=>h) (Or.inl ⟨by rfl,?_⟩) aQ ?_;rotate_left;focus ((intro wq hq;go_split_ands;go_simp);first|done|(with_reducible rfl))
     refine wpL_pure (i:=4) (v:=?_) rfl kRz (fun _ _ _ h=>h) (Or.inl ⟨by rfl,?_⟩) ?_;rotate_left;focus ((intro wq;go_simp);first|done|(with_reducible rfl))
     refine wpL_pure (i:=5) (v:=?_) rfl kRz (fun _ _ _ h=>h) (Or.inl ⟨by rfl,?_⟩) ?_;rotate_left;focus ((intro wq;go_simp);first|done|(with_reducible rfl))
     refine wpL_pure (i:=6) (v:=?_) rfl kRz (fun _ _ _ h=>h) (Or.inl ⟨by rfl,?_⟩) ?_;rotate_left;focus ((intro wq;go_simp);first|done|(with_reducible rfl))
     refine wpL_take (i:=7) (v:=?_) rfl kRz (fun _ _ _ h=>h) (Or.inl ⟨by rfl,?_⟩) aQ ?_;rotate_left;focus ((intro wq hq;go_split_ands;go_simp);first|done|(with_reducible rfl))
     refine wpL_pure (i:=8) (v:=?_) rfl kRz (fun _ _ _ h=>h) (Or.inl ⟨by rfl,?_⟩) ?_;rotate_left;focus ((intro wq;go_simp);first|done|(with_reducible rfl))
     refine wpL_pure (i:=9) (v:=?_) rfl kRz (fun _ _ _ h=>h) (Or.inl ⟨by rfl,?_⟩) ?_;rotate_left;focus ((intro wq;go_simp);first|done|(with_reducible rfl))
     refine wpL_pure (i:=10) (v:=?_) rfl kRz (fun _ _ _ h=>h) (Or.inl ⟨by rfl,?_⟩) ?_;rotate_left;focus ((intro wq;go_simp);first|done|(with_reducible rfl))
     refine wpL_eff (i:=1) rfl kRz (fun K hK=>?_)
     go_simp
     refine hcl.mono ?_
     rintro e w2 ⟨v1,rfl,hS3,a1,n1,k1,rfl⟩
     refine hK _ _ (.inr (.inl (hS3.pick1.cellAt 2 _ rfl))) ?_
     clear hK
     refine wpL_eff (i:=11) rfl kRz (fun K hK=>?_)
     have hrd:=rdsl_take (hS3.pick2.rd) hTle bc
     refine step_append (w0:=w0) rFz _ _ _ rFz _ i _ Tryz.underlying25 hi hz0 hz1 rFz oQ rFz rFz (bys_one _) hS3 hrd h63 hby ?_
     intro v2 w3 hS4 _
     refine hK _ _ (.inl rfl) ?_
     clear hK
     refine wpL_pure (i:=12) (v:=?_) rfl kRz (fun _ _ _ h=>h) (Or.inl ⟨by rfl,?_⟩) ?_;rotate_left;focus ((intro wq;go_simp);first|done|(with_reducible rfl))
     refine wpL_done kRz ?_
     obtain ⟨xa2,xn2,xc2,rfl,_⟩:=id hS4.rd
     have hX:Sat w0 w3 (bsl (.slice xa2 xn2 xc2) (f.at k++cb.take T)::filPt b (.slice fa fn fc) (.slice na nn nc) (.slice (some ⟨g,0,none⟩) f.waits.length wc)::F):=by
      unfold bsl;rw [bys_append];exact hS4.sel 7 [0,5] rfl rfl
     have hXl:(f.at k++cb.take T).length≤16777216:=by simp;omega
     have hcl:=clone_c hX hX.rd oQ
     go_wp2_with (go_at_call 100;go_must (refine hcl.mono ?_);rintro e w9 ⟨v9,rfl,hS9,a9,n9,k9,rfl⟩;have g0:=hS9.pick2.freeAt 0;have g1:=hS9.pick2.freeAt 1;have g2:=hS9.pick2.freeAt 2;have d0:=hS9.pick2.cellAt 0 _ rfl;have d1:=hS9.pick2.cellAt 1 _ rfl;have d2:=hS9.pick2.cellAt 2 _ rfl)
     go_end0
     refine ⟨_,rfl,?_⟩
     have h5:=((hS9.pick2.set 0 (.slice xa2 xn2 xc2)).set 1 (.slice a9 n9 k9)).set 2 (.slice none 0 0)
     unfold Fil.crash
     rw [Hleft.out]
     refine FilRep.shut (fv:= .slice xa2 xn2 xc2) (nv:= .slice a9 n9 k9) (wv:= .slice none 0 0) (ws:=[]) rfl ?_
     have h6:Sat w0 _ (osl 241 3 (.slice none 0 0) []::chgs []::_::bsl _ _::bsl _ _::F):=Sat.osl_nil.2 (Sat.emp.2 (h5.sel 3 [0,1,2] rfl rfl))
     exact h6.sel 5 [2,4,3,0,1] rfl rfl
    ·have hleft:f.left whole torn=f.at k:=by rw [Hl0.out,hpw];rfl
     have Hleft:=uQ hleft
     clear hleft hpw
     have hX:Sat w0 wr (bsl (.slice xa xn xc) (f.at k)::filPt b (.slice fa fn fc) (.slice na nn nc) (.slice (some ⟨g,0,none⟩) f.waits.length wc)::F):=hS.sel 4 [0,1] rfl rfl
     have hXl:=hatl
     have hcl:=clone_c hX hX.rd oQ
     go_wp2_with (go_at_call 100;go_must (refine hcl.mono ?_);rintro e w9 ⟨v9,rfl,hS9,a9,n9,k9,rfl⟩;have g0:=hS9.pick2.freeAt 0;have g1:=hS9.pick2.freeAt 1;have g2:=hS9.pick2.freeAt 2;have d0:=hS9.pick2.cellAt 0 _ rfl;have d1:=hS9.pick2.cellAt 1 _ rfl;have d2:=hS9.pick2.cellAt 2 _ rfl)
     go_end0
     refine ⟨_,rfl,?_⟩
     have h5:=((hS9.pick2.set 0 (.slice xa xn xc)).set 1 (.slice a9 n9 k9)).set 2 (.slice none 0 0)
     unfold Fil.crash
     rw [Hleft.out]
     refine FilRep.shut (fv:= .slice xa xn xc) (nv:= .slice a9 n9 k9) (wv:= .slice none 0 0) (ws:=[]) rfl ?_
     have h6:Sat w0 _ (osl 241 3 (.slice none 0 0) []::chgs []::_::bsl _ _::bsl _ _::F):=Sat.osl_nil.2 (Sat.emp.2 (h5.sel 3 [0,1,2] rfl rfl))
     exact h6.sel 5 [2,4,3,0,1] rfl rfl
   ·have hke:k=f.waits.length:=by omega
    have hleft:f.left whole torn=f.at k:=by rw [Hl0.out,List.getElem?_eq_none oQ]
    have Hleft:=uQ hleft
    clear hleft hke
    have hkc:¬ (k:Int)<(f.waits.length:Int):=by omega
    have hkd:decide ((k:Int)<(f.waits.length:Int))=false:=by rw [decide_eq_false_iff_not];exact hkc
    have d2:=hS.pick1.cellAt 2 _ rfl
    have hX:Sat w0 wr (bsl (.slice xa xn xc) (f.at k)::filPt b (.slice fa fn fc) (.slice na nn nc) (.slice wa f.waits.length wc)::F):=hS.sel 4 [0,1] rfl rfl
    have hXl:=hatl
    have hcl:=clone_c hX hX.rd oQ
    go_wp2_with (go_at_call 100;go_must (refine hcl.mono ?_);rintro e w9 ⟨v9,rfl,hS9,a9,n9,k9,rfl⟩;have g0:=hS9.pick2.freeAt 0;have g1:=hS9.pick2.freeAt 1;have g2:=hS9.pick2.freeAt 2;have d0:=hS9.pick2.cellAt 0 _ rfl;have d1:=hS9.pick2.cellAt 1 _ rfl;have d2:=hS9.pick2.cellAt 2 _ rfl)
    go_end0
    refine ⟨_,rfl,?_⟩
    have h5:=((hS9.pick2.set 0 (.slice xa xn xc)).set 1 (.slice a9 n9 k9)).set 2 (.slice none 0 0)
    unfold Fil.crash
    rw [Hleft.out]
    refine FilRep.shut (fv:= .slice xa xn xc) (nv:= .slice a9 n9 k9) (wv:= .slice none 0 0) (ws:=[]) rfl ?_
    have h6:Sat w0 _ (osl 241 3 (.slice none 0 0) []::chgs []::_::bsl _ _::bsl _ _::F):=Sat.osl_nil.2 (Sat.emp.2 (h5.sel 3 [0,1,2] rfl rfl))
    exact h6.sel 5 [2,4,3,0,1] rfl rfl
end
section
variable {w0 w:World}{F:List HProp}{m fb nb b r:Nat}{M:Med}{bs:List Nat}{wv v bv lv:Value}{s:ByteArray}{fs:List Fil}{K:Nat}{f:Fil}
def ints (l:List Int):List Value:=l.map (.int .i64)
def inI (x:Int):Prop:= -9223372036854775808≤x∧x≤9223372036854775807
def nxs:Value→Value
 |.slice a (n+1) c=> .slice (if c=1 then a else a.map (·.add 1)) n (c - 1)
 |v=>v
def nxv (v:Value):Nat→Value
 |0=>v
 |j+1=>nxs (nxv v j)
def capOk (v:Value):Prop:=∃ a n c,v = .slice a n c∧n≤c∧c≤9223372036854775807
theorem capOk.nxs {v:Value} (h:capOk v):capOk (nxs v):=by
 obtain ⟨a,n,c,rfl,h1,h2⟩:=h
 cases n with
 |zero=>exact ⟨a,0,c,rfl,h1,h2⟩
 |succ n=>exact ⟨_,n,c - 1,rfl,by omega,by omega⟩
theorem capOk.nxv {v:Value} (h:capOk v):∀ j,capOk (nxv v j)
 |0=>h
 |j+1=>(h.nxv j).nxs
theorem rdsl_nxs {v:Value}{xs:List Value} (h:rdsl 1 v xs w) (hc:capOk v):rdsl 1 (nxs v) (xs.drop 1) w:=by
 obtain ⟨a,n,c,rfl,h1,h2⟩:=hc
 cases n with
 |zero=>
  obtain ⟨a',n',c',he,hl,hx⟩:=h
  cases he
  have:xs=[]:=List.eq_nil_of_length_eq_zero oQ
  subst this
  exact ⟨a,0,c,rfl,rfl,by simp⟩
 |succ n=>
  have hlen:xs.length=n+1:=by obtain ⟨a',n',c',he,hl,hx⟩:=h;cases he;omega
  have:=rdsl_slice h (lo:=1) (k:=n) oQ (if c=1 then a else a.map (·.add 1)) rfl h1 (c - 1)
  rw [List.take_of_length_le (by simp;omega)]at this
  exact this
theorem rdsl_nxv {v:Value}{l:List Int} (h:rdsl 1 v (ints l) w) (hc:capOk v):∀ j,rdsl 1 (nxv v j) (ints (l.drop j)) w
 |0=>h
 |j+1=>by
  have:=rdsl_nxs (rdsl_nxv h hc j) (hc.nxv j)
  unfold ints at this
  rw [← List.map_drop,List.drop_drop]at this
  exact this
theorem num_drop (l:List Int) (j:Nat):num (l.drop j) 0=num l j:=by
 unfold num
 rw [List.getD_eq_getElem?_getD,List.getElem?_drop,List.getD_eq_getElem?_getD];rfl
theorem num_in {l:List Int} (h:∀ x∈l,inI x) (j:Nat):inI (num l j):=by
 unfold num
 rw [List.getD_eq_getElem?_getD]
 cases hj:l[j]? with
 |none=>exact ⟨by simp,by simp⟩
 |some x=>exact h x (List.mem_of_getElem? hj)
theorem next_c (l:List Int) (h:Sat w0 w (pt b (.cells #[bv] 42 (0,0))::F)) (hr:rdsl 1 bv (ints l) w) (hc:capOk bv) :
  Calls Tryz.prog 88 #[ptr b] w (Rtn fun v w'=>v = .int .i64 (num l 0)∧Sat w0 w' (pt b (.cells #[nxs bv] 42 (0,0))::F)):=by
 obtain ⟨a,n,c,rfl,h1,h2⟩:=hc
 have c0:=h.cellAt 0 _ rfl
 have f0:=h.freeAt 0
 obtain ⟨a',n',c',he,hlen,hcell⟩:=hr
 cases he
 have hlen':n=l.length:=by unfold ints at hlen;simpa using hlen.symm
 cases l with
 |nil=>
  simp at hlen';subst hlen'
  clear hcell hlen
  go_enter Tryz.func88,Tryz.ntmps88
  go_wp2
  go_ret
  exact ⟨.int .i64 0,rfl,rfl,h⟩
 |cons x l=>
  obtain rfl:n=l.length+1:=by simpa using hlen'
  obtain ⟨p,rfl,hx⟩:=hcell 0 (.int .i64 x) rfl
  rw [show p.add 0=p from by unfold Addr.add;simp]at hx
  clear hcell hlen hlen'
  have hS0:=h
  clear h
  have hz:((l.length:Int)+1==0)=false:=by rw [beq_eq_false_iff_ne];omega
  go_enter Tryz.func88,Tryz.ntmps88
  go_wp2_with fail
  ·go_ret
   have e:nxs (.slice (some p) (l.length+1) 1) = .slice (some p) l.length 0:=by simp [nxs]
   exact ⟨.int .i64 x,rfl,rfl,by subst_vars;rw [e];exact hS0.set 0 _⟩
  ·go_ret
   have hc1:¬ c=1:=by assumption
   have e:nxs (.slice (some p) (l.length+1) c) = .slice (some ⟨p.block,p.off+1,none⟩) l.length (c - 1):=by simp [nxs,hc1,Addr.add]
   exact ⟨.int .i64 x,rfl,rfl,by rw [e];exact hS0.set 0 _⟩
end
section
variable {w0 w:World}{F:List HProp}{m fb nb b r:Nat}{M:Med}{bs:List Nat}{wv v bv lv:Value}{s:ByteArray}{fs:List Fil}{f:Fil}
theorem lnk_cells (bs:List Nat) (ws:List Lnk) (i:Nat) (p:Lnk) (h:ws[i]?=some p) :
  (ws.flatMap (lnkCells bs))[i * 3]?=some (.string p.fr)∧(ws.flatMap (lnkCells bs))[i * 3+1]?=some (.string p.to)∧(ws.flatMap (lnkCells bs))[i * 3+2]?=some (lnkPtr bs p):=by
 induction ws generalizing i with
 |nil=>cases h
 |cons q ws ih=>
  cases i with
  |zero=>simp at h;subst h;exact ⟨rfl,rfl,rfl⟩
  |succ i=>
   obtain ⟨h1,h2,h3⟩:=ih i (by simpa using h)
   have e:∀ j,(List.flatMap (lnkCells bs) (q::ws))[(i+1) * 3+j]?=(List.flatMap (lnkCells bs) ws)[i * 3+j]?:=by
    intro j
    rw [List.flatMap_cons,List.getElem?_append_right (by simp [lnkCells];omega)]
    congr 1
    simp [lnkCells];omega
   exact ⟨(e 0).trans h1,(e 1).trans h2,(e 2).trans h3⟩
theorem lwaits_cells {ws:List Lnk}{g n cap:Nat} (h:Sat w0 w (osl 162 3 (.slice (some ⟨g,0,none⟩) n cap) (ws.flatMap (lnkCells bs))::F)){i:Nat}{p:Lnk} (hi:ws[i]?=some p) :
  w.cell? ⟨g,i * 3,none⟩=some (.string p.fr)∧w.cell? ⟨g,i * 3+1,none⟩=some (.string p.to)∧w.cell? ⟨g,i * 3+2,none⟩=some (lnkPtr bs p):=by
 obtain ⟨h1,h2,h3⟩:=lnk_cells bs ws i p hi
 rcases h.osl_cases with ⟨he,_⟩|⟨b,n',cap',cs,he,hl,hn,hc,hcm,htk,hp⟩
 ·cases he
 ·cases he
  exact ⟨hp.cellAt _ _ (take_get htk h1),hp.cellAt _ _ (take_get htk h2),hp.cellAt _ _ (take_get htk h3)⟩
theorem crashFiles_snoc (l:List Int):∀ (ns:Names) (p:ByteArray×Nat) (j:Nat) (fs:List Fil),
  crashFiles l (ns++[p]) j fs=(crashFiles l ns j fs).set p.2 (((crashFiles l ns j fs).getD p.2 Fil.new).crash (num l (j+2 * ns.length)) (num l (j+2 * ns.length+1)))
 |[],p,j,fs=>rfl
 |q::ns,p,j,fs=>by
  show crashFiles l (ns++[p]) (j+2) _=_
  rw [crashFiles_snoc l ns p (j+2) _]
  have e:j+2+2 * ns.length=j+2 * (q::ns).length:=by simp;omega
  rw [e];rfl
theorem lastNames_succ (M:Med) (k:Nat) (x:Lnk) (h:M.waits[k]?=some x):M.lastNames (k+1)=x.on (M.lastNames k):=by
 unfold Med.lastNames
 rw [List.take_add_one,h,List.foldl_append];rfl
theorem crash_c {KK:Nat} (hM:M.Ok KK) (hKK:KK≤1099511627776) (h:Sat w0 w (MedRep m M::F)) (l:List Int) (hr:Ro w0 F (rdsl 1 lv (ints l))) (hcap:capOk lv) (hi:∀ x∈l,inI x) :
  Calls Tryz.prog 22 #[ptr m,lv] w (Rtn fun _ w'=>Sat w0 w' (MedRep m (M.crash l)::F)):=by
 obtain ⟨bs,fb,nb,wv,hl,hR⟩:=MedRep.open h
 have hO:=hR.sel 5 [4] rfl rfl
 obtain ⟨wa,wn,wc,rfl,hwn,_⟩:=id hO.rd
 have hlen:(M.waits.flatMap (lnkCells bs)).length=M.waits.length * 3:=by
  rw [List.length_flatMap];simp [lnkCells,List.map_const']
 have hwn':wn=M.waits.length:=by omega
 have hcapO:wn≤wc∧wc≤9223372036854775807:=by
  rcases hO.osl_cases with ⟨he,_⟩|⟨b,n',cap',cs,he,_,hn,_,hcm,_,_⟩
  ·cases he;omega
  ·cases he;exact ⟨hn,hcm⟩
 obtain ⟨hc1,hc2⟩:=hcapO
 obtain ⟨N,hNd⟩:∃ N,N=clampN (num l 0) wn:=⟨_,rfl⟩
 have hNle:N≤wn:=by rw [hNd];exact clampN_le _ _
 have hN:min (max (num l 0) 0) (wn:Int)=(N:Int):=by rw [hNd];unfold clampN;omega
 have hbud:=hM.budget
 have hNc:(N:Int)≤(wc:Int):=by omega
 have hN0:(0:Int)≤(N:Int):=by omega
 subst hwn'
 obtain ⟨la,ln,lc,rfl,hlc1,hlc2⟩:=id hcap
 have hb:Sat w0 (w.alloc (.cells #[.slice la ln lc] 42)) _:=hR.alloc _
 have c1:=hb.pick1.cellAt 1 _ rfl
 have c2:=hb.pick1.cellAt 2 _ rfl
 have c3:=hb.pick1.cellAt 3 _ rfl
 have hcp:=copied_c (hb.sel 6 [4,0,1,2,3,5] rfl rfl)
 have HNd:=uQ hNd;have HM:=uQ hM;have Hr:=uQ hr;have Hi:=uQ hi;have Hcap:=uQ hcap
 clear hlen hwn hNd hM hr hi hcap hO
 go_enter Tryz.func22,Tryz.ntmps22
 go_wp2_with (go_at_call 89;refine hcp.mono ?_;rintro e w1 ⟨v,rfl,b',rfl,hS1⟩)
 clear hcp c1 c2 c3 hb
 generalize w.heap.size=cb at *
 have hS:Sat w0 w1 (pt cb (.cells #[.slice la ln lc] 42 (0,0))::omap .string b' (mapL bs M.fast)::omap .string fb (mapL bs M.fast)::medPt m M fb nb (.slice wa M.waits.length wc)::omap .string nb (mapL bs M.now)::filesRep bs M.files::osl 162 3 (.slice wa M.waits.length wc) (M.waits.flatMap (lnkCells bs))::F):=hS1.sel 7 [2,0,1,3,4,5,6] rfl rfl
 clear hS1
 have d3:=hS.pick3.cellAt 3 _ rfl
 have hnx:=next_c (F:=omap .string b' (mapL bs M.fast)::omap .string fb (mapL bs M.fast)::medPt m M fb nb (.slice wa M.waits.length wc)::omap .string nb (mapL bs M.now)::filesRep bs M.files::osl 162 3 (.slice wa M.waits.length wc) (M.waits.flatMap (lnkCells bs))::F) l hS.drew (Hr.out _ hS.drew.drop.drop.drop.drop.drop.drop.drop) Hcap.out
 refine wpL_begin [13,14] (fun w'=>w'.cell? ⟨m,3,none⟩=some (.slice wa M.waits.length wc)) kRz ?_
 have hG:=d3
 refine wpL_pure (i:=0) (v:=?_) rfl kRz (fun _ _ _ h=>h) (Or.inl ⟨by rfl,?_⟩) ?_;rotate_left;focus ((intro wq;go_simp);first|done|(with_reducible rfl))
 refine wpL_pure (i:=1) (v:=?_) rfl kRz (fun _ _ _ h=>h) (Or.inl ⟨by rfl,?_⟩) ?_;rotate_left;focus ((intro wq;go_simp);first|done|(with_reducible rfl))
 refine wpL_pure (i:=2) (v:=?_) rfl kRz (fun _ _ _ h=>h) (Or.inl ⟨by rfl,?_⟩) ?_;rotate_left;focus ((intro wq;go_simp);first|done|(with_reducible rfl))
 refine wpL_take (i:=3) (v:=?_) rfl kRz (fun _ _ _ h=>h) (Or.inl ⟨by rfl,?_⟩) aQ ?_;rotate_left;focus ((intro wq hq;go_split_ands;go_simp);first|done|(with_reducible rfl))
 refine wpL_pure (i:=4) (v:=?_) rfl kRz (fun _ _ _ h=>h) (Or.inl ⟨by rfl,?_⟩) ?_;rotate_left;focus ((intro wq;go_simp);first|done|(with_reducible rfl))
 refine wpL_pure (i:=7) (v:=?_) rfl kRz (fun _ _ _ h=>h) (Or.inl ⟨by rfl,?_⟩) ?_;rotate_left;focus ((intro wq;go_simp);first|done|(with_reducible rfl))
 refine wpL_pure (i:=8) (v:=?_) rfl kRz (fun _ _ _ h=>h) (Or.inl ⟨by rfl,?_⟩) ?_;rotate_left;focus ((intro wq;go_simp);first|done|(with_reducible rfl))
 refine wpL_pure (i:=9) (v:=?_) rfl kRz (fun _ _ _ h=>h) (Or.inl ⟨by rfl,?_⟩) ?_;rotate_left;focus ((intro wq;go_simp);first|done|(with_reducible rfl))
 refine wpL_take (i:=10) (v:=?_) rfl kRz (fun _ _ _ h=>h) (Or.inl ⟨by rfl,?_⟩) aQ ?_;rotate_left;focus ((intro wq hq;go_split_ands;go_simp);first|done|(with_reducible rfl))
 refine wpL_pure (i:=11) (v:=?_) rfl kRz (fun _ _ _ h=>h) (Or.inl ⟨by rfl,?_⟩) ?_;rotate_left;focus ((intro wq;go_simp);first|done|(with_reducible rfl))
 refine wpL_pure (i:=15) (v:=?_) rfl kRz (fun _ _ _ h=>h) (Or.inl ⟨by rfl,?_⟩) ?_;rotate_left;focus ((intro wq;go_simp);first|done|(with_reducible rfl))
 refine wpL_eff (i:=5) rfl kRz (fun K hK=>?_)
 go_simp
 refine hnx.mono ?_
 clear hnx
 rintro e w2 ⟨v,rfl,rfl,hS2⟩
 refine hK _ _ (.inr (.inl (hS2.pick3.cellAt 3 _ rfl))) ?_
 clear hK
 refine wpL_pure (i:=6) (v:=?_) rfl kRz (fun _ _ _ h=>h) (Or.inl ⟨by rfl,?_⟩) ?_;rotate_left;focus ((intro wq;go_simp);first|done|(with_reducible rfl))
 refine wpL_pure (i:=12) (v:=?_) rfl kRz (fun _ _ _ h=>h) (Or.inl ⟨by rfl,?_⟩) ?_;rotate_left;focus ((intro wq;go_simp);first|done|(with_reducible rfl))
 refine wpL_pure (i:=13) (v:=?_) rfl kRz (fun _ _ _ h=>h) (Or.inl ⟨by rfl,?_⟩) ?_;rotate_left;focus ((intro wq;go_simp);first|done|(with_reducible rfl))
 refine wpL_pure (i:=14) (v:=?_) rfl kRz (fun _ _ _ h=>h) (Or.inl ⟨by rfl,?_⟩) ?_;rotate_left;focus ((intro wq;go_simp);first|done|(with_reducible rfl))
 refine wpL_done kRz ?_
 clear hG d3 hS
 go_wp2
 simp only [ayQ]
 go_frame
 go_loopg [41] N (fun g iq wr=>∃ k:Nat,g=N - k∧k≤N∧iq = .int .i64 k ∧
  Sat w0 wr (omap .string b' (mapL bs (M.lastNames k))::pt cb (.cells #[nxs (.slice la ln lc)] 42 (0,0))::omap .string fb (mapL bs M.fast)::medPt m M fb nb (.slice wa M.waits.length wc)::omap .string nb (mapL bs M.now)::filesRep bs M.files::osl 162 3 (.slice wa M.waits.length wc) (M.waits.flatMap (lnkCells bs))::F))
 case atStart=>exact ⟨0,rfl,Nat.zero_le _,rfl,hS2.sel 2 [1,0] rfl rfl⟩
 case round=>
  obtain ⟨k,rfl,hkN,rfl,hS⟩:=hrel
  by_cases hk:k<N
  ·obtain ⟨p,hp⟩:∃ p,M.waits[k]?=some p:=⟨M.waits[k]'oQ,List.getElem?_eq_getElem _⟩
   have hsucc:=lastNames_succ M k p hp
   have hO:=hS.sel 7 [6] rfl rfl
   have hshape:∃ g,wa=some ⟨g,0,none⟩:=by
    rcases (Sat.osl_cases hO) with ⟨he,hx,_⟩|⟨g,n',cap',cs,he,_⟩
    ·have:=(Value.slice.inj he).2.1;omega
    ·exact ⟨g,(Value.slice.inj he).1⟩
   obtain ⟨g,rfl⟩:=hshape
   obtain ⟨w0',w1',w2'⟩:=lwaits_cells hO hp
   have hb:Sat w0 (wr.alloc (.cells #[.string p.fr,.string p.to,lnkPtr bs p] 162)) _:=hS.alloc _
   have e0:=hb.cellAt 0 _ rfl
   have e1:=hb.cellAt 1 _ rfl
   have e2:=hb.cellAt 2 _ rfl
   have hon:=on_c p hb.drop
   obtain ⟨fr,to,pf⟩:=p
   obtain ⟨q,hpv⟩:∃ q,lnkPtr bs ⟨fr,to,pf⟩ = .pointer q:=by unfold lnkPtr;split <;> exact ⟨_,rfl⟩
   rw [hpv]at w2' hon e2
   have Hsucc:=uQ hsucc
   clear hsucc hp hpv hO
   have hkc:(k:Int)<(N:Int):=by omega
   simp only at w0' w1' e0 e1 hon
   go_wp2_with (go_at_call 90;go_must (refine hon.mono ?_);rintro e w2 ⟨v2,rfl,hS3⟩)
   go_roundg (N - (k+1))
   case measure=>omega
   case rel=>
    refine ⟨k+1,rfl,by omega,by go_num,?_⟩
    rw [Hsucc.out]
    exact hS3
  ·obtain rfl:k=N:=by omega
   have hns:=HM.out.names k oQ
   have hcr:M.crash l={ M with fast:=M.lastNames k,now:=M.lastNames k,waits:=[],files:=crashFiles l (M.lastNames k) 1 M.files,off:=false,armed:=false,left:=0 }:=by
    unfold Med.crash;rw [← HNd.out]
   have Hcr:=uQ hcr;clear hcr HNd
   have hkc:¬ (k:Int)<(k:Int):=by omega
   have hlen5:=hns.len
   generalize hL:M.lastNames k=ns at *
   clear hL
   have hS':Sat w0 wr (omap .string b' (mapL bs ns)::pt cb (.cells #[nxs (.slice la ln lc)] 42 (0,0))::medPt m M fb nb (.slice wa M.waits.length wc)::filesRep bs M.files::F):=hS.sel 7 [0,1,3,5] rfl rfl
   clear hS
   have hnm:=names_c hS' hns.srt oQ
   have Hns:=uQ hns;clear hns
   go_wp2_with (go_at_call 91;refine hnm.mono ?_;rintro e w3 ⟨v,rfl,hS3,a3,n3,c3,rfl⟩)
   clear hnm hS'
   have hn3:n3=ns.length:=by
    obtain ⟨a,n,c,he,hln,_⟩:=hS3.rd
    cases he
    unfold strs at hln;simp at hln;omega
   subst hn3
   have hc3:ns.length≤c3∧c3≤9223372036854775807:=by
    rcases hS3.osl_cases with ⟨he,_⟩|⟨b,n',cap',cs,he,_,hn,_,hcm,_,_⟩
    ·have h1:=(Value.slice.inj he).2;omega
    ·have h1:=(Value.slice.inj he).2;obtain ⟨h1,rfl⟩:=h1;subst h1;exact ⟨hn,hcm⟩
   obtain ⟨hc31,hc32⟩:=hc3
   try go_frame
   go_loopg [52] ns.length (fun g iq wr=>∃ i:Nat,g=ns.length - i∧i≤ns.length∧iq = .int .i64 i ∧
    Sat w0 wr (pt cb (.cells #[nxv (.slice la ln lc) (1+2 * i)] 42 (0,0))::omap .string b' (mapL bs ns)::osl 9 1 (.slice a3 ns.length c3) (strs (ns.map (·.1)))::medPt m M fb nb (.slice wa M.waits.length wc)::filesRep bs (crashFiles l (ns.take i) 1 M.files)::F))
   case atStart=>exact ⟨0,rfl,Nat.zero_le _,rfl,hS3.sel 4 [2,1,0,3] rfl rfl⟩
   case round=>
    obtain ⟨i,rfl,hiN,rfl,hS⟩:=hrel
    by_cases hilt:i<ns.length
    ·obtain ⟨p,hp⟩:∃ p,ns[i]?=some p:=⟨ns[i]'oQ,List.getElem?_eq_getElem _⟩
     have hpm:p∈ns:=List.mem_of_getElem? hp
     have hpid:=Hns.out.ids p hpm
     have htk:ns.take (i+1)=ns.take i++[p]:=by rw [List.take_add_one,hp];rfl
     have hcf:crashFiles l (ns.take (i+1)) 1 M.files=(crashFiles l (ns.take i) 1 M.files).set p.2 (((crashFiles l (ns.take i) 1 M.files).getD p.2 Fil.new).crash (num l (1+2 * i)) (num l (1+2 * i+1))):=by
      rw [htk,crashFiles_snoc,List.length_take,Nat.min_eq_left oQ]
     have hst:(strs (ns.map (·.1)))[i]?=some (.string p.1):=by unfold strs;simp [hp]
     have hshape:∃ g,a3=some ⟨g,0,none⟩∧wr.cell? ⟨g,i,none⟩=some (.string p.1):=by
      rcases Sat.osl_cases hS.pick2 with ⟨he,hx,_⟩|⟨g,n',cap',cs,he,hx1,hx2,hx3,hx4,hx5,hx6⟩
      ·have:=(Value.slice.inj he).2.1;omega
      ·refine ⟨g,(Value.slice.inj he).1,hx6.cellAt _ _ (take_get hx5 hst)⟩
     obtain ⟨g,rfl,hcell⟩:=hshape
     have hR0:=Hr.out _ hS.drop.drop.drop.drop.drop
     have hnx:=next_c (l.drop (1+2 * i)) hS (rdsl_nxv hR0 Hcap.out _) (Hcap.out.nxv _)
     rw [num_drop]at hnx
     have hlenf:bs.length=(crashFiles l (ns.take i) 1 M.files).length:=by rw [crashFiles_len];exact hl
     have hokf:=crashFiles_ok l _ (ns.take i) 1 M.files HM.out.files
     have hff:Fil.Ok KK ((crashFiles l (ns.take i) 1 M.files).getD p.2 Fil.new):=by
      rw [List.getD_eq_getElem?_getD,List.getElem?_eq_getElem (by rw [crashFiles_len];exact hpid)]
      exact hokf _ (List.getElem_mem _)
     obtain ⟨G,hG1,hG2⟩:=files_take bs (crashFiles l (ns.take i) 1 M.files) p.2 hlenf (by rw [crashFiles_len];exact hpid)
     have hfp:fptr bs ns p.1=ptr (bs.getD p.2 0):=by
      unfold fptr;rw [nget_of_mem Hns.out.srt.keys (show (p.1,p.2)∈ns from hpm)]
     have hin1:=num_in Hi.out (1+2 * i)
     have hin2:=num_in Hi.out (1+2 * i+1)
     obtain ⟨nm,id⟩:=p
     simp only at hcell hfp hG1 hG2 hff hcf
     generalize bs.getD id 0=q at *
     have Hcf:=uQ hcf;have HG2:=uQ hG2;have Hff:=uQ hff;have Hhp:=uQ hp;have HG1:=uQ hG1;have Hin1:=uQ hin1;have Hin2:=uQ hin2;have Hfp:=uQ hfp;have HS:=uQ hS
     clear hcf hG2 hff hp hpm hpid htk hst hokf hlenf hG1 hin1 hin2 hfp hS hR0
     have hic:(i:Int)<(ns.length:Int):=by omega
     go_wp2_with (go_at_call 88;refine hnx.mono ?_;rintro e w4 ⟨v,rfl,rfl,hS4⟩)
     clear hnx
     have hS5:Sat w0 w4 (pt cb (.cells #[nxv (.slice la ln lc) (1+2 * i+1)] 42 (0,0))::omap .string b' (mapL bs ns)::osl 9 1 (.slice (some ⟨g,0,none⟩) ns.length c3) (strs (ns.map (·.1)))::medPt m M fb nb (.slice wa M.waits.length wc)::filesRep bs (crashFiles l (ns.take i) 1 M.files)::F):=hS4
     clear hS4
     have hlk:=look_names (s:=nm) hS5.pick1.drew
     rw [Hfp.out]at hlk
     have hnx2:=next_c (l.drop (1+2 * i+1)) hS5.drew (rdsl_nxv (Hr.out _ hS5.drew.drop.drop.drop.drop.drop) Hcap.out _) (Hcap.out.nxv _)
     rw [num_drop]at hnx2
     refine wpL_begin [6] (fun w'=>(Instr.lookup 155 (.map (some b')) (.string nm) false).run Tryz.prog w' = .ok (ptr q) w') kRz ?_
     have hG:=hlk
     refine wpL_pure (i:=0) (v:=?_) rfl kRz (fun _ _ _ h=>h) (Or.inl ⟨by rfl,?_⟩) ?_;rotate_left;focus ((intro wq;go_simp);first|done|(with_reducible rfl))
     refine wpL_pure (i:=1) (v:=?_) rfl kRz (fun _ _ _ h=>h) (Or.inl ⟨by rfl,?_⟩) ?_;rotate_left;focus ((intro wq;go_simp);first|done|(with_reducible rfl))
     refine wpL_take (i:=2) (v:=?_) rfl kRz (fun _ _ _ h=>h) (Or.inl ⟨by rfl,?_⟩) aQ ?_;rotate_left;focus ((intro wq hq;go_split_ands;go_simp);first|done|(with_reducible rfl))
     refine wpL_pure (i:=3) (v:=?_) rfl kRz (fun _ _ _ h=>h) (Or.inl ⟨by rfl,?_⟩) ?_;rotate_left;focus ((intro wq;go_simp);first|done|(with_reducible rfl))
     refine wpL_pure (i:=4) (v:=?_) rfl kRz (fun _ _ _ h=>h) (Or.inl ⟨by rfl,?_⟩) ?_;rotate_left;focus ((intro wq;go_simp);first|done|(with_reducible rfl))
     clear hlk hG
     refine wpL_eff (i:=5) rfl kRz (fun K hK=>?_)
     go_simp
     refine hnx2.mono ?_
     clear hnx2
     rintro e w5 ⟨v,rfl,rfl,hS6⟩
     have hlk2:=look_names (s:=nm) hS6.pick1
     rw [Hfp.out]at hlk2
     refine hK _ _ (.inr (.inl hlk2)) ?_
     clear hK hlk2
     have hS7:=hS6.sel 5 [4,0,1,2,3] rfl rfl
     have hS8:Sat w0 w5 (filesRep bs (crashFiles l (ns.take i) 1 M.files)::_):=hS7
     rw [HG1.out]at hS8
     have hcr:=crashF_c Hff.out hKK (Sat.star.1 hS8) (num l (1+2 * i)) (num l (1+2 * i+1)) Hin1.out Hin2.out
     clear hS8 hS7 hS6
     refine wpL_eff (i:=6) rfl kRz (fun K hK=>?_)
     go_simp
     refine hcr.mono ?_
     clear hcr
     rintro e w6 ⟨v,rfl,hS9⟩
     refine hK _ _ (.inl rfl) ?_
     clear hK
     refine wpL_done kRz ?_
     go_wp2
     go_roundg (ns.length - (i+1))
     case measure=>omega
     case rel=>
      refine ⟨i+1,rfl,by omega,by go_num,?_⟩
      rw [Hcf.out]
      have h9:=Sat.star.2 hS9
      rw [← HG2.out]at h9
      exact h9.sel 5 [1,2,3,4,0] rfl rfl
    ·obtain rfl:i=ns.length:=by omega
     have hic:¬ (ns.length:Int)<(ns.length:Int):=by omega
     rw [List.take_length]at hS
     have hcp2:=copied_c (hS.sel 5 [1,0,2,3,4] rfl rfl)
     go_wp2_with (go_at_call 89;refine hcp2.mono ?_;rintro e w4 ⟨v,rfl,b2,rfl,hS4⟩;have hS5:=hS4.pick4;have g1:=hS5.freeAt 1;have g2:=hS5.freeAt 2;have g3:=hS5.freeAt 3;have g4:=hS5.freeAt 4;have g5:=hS5.freeAt 5;have g6:=hS5.freeAt 6;have d1:=hS5.cellAt 1 _ rfl;have d2:=hS5.cellAt 2 _ rfl;have d3:=hS5.cellAt 3 _ rfl;have d4:=hS5.cellAt 4 _ rfl;have d5:=hS5.cellAt 5 _ rfl;have d6:=hS5.cellAt 6 _ rfl)
     go_end0
     refine ⟨_,rfl,?_⟩
     rw [Hcr.out]
     refine MedRep.shut (bs:=bs) (fb:=b2) (nb:=b') (wv:= .slice none 0 0) (by simp [crashFiles_len];exact hl) ?_
     have h5:=((((((Sat.set hS5 2 (.map (some b'))).set 1 (.map (some b2))).set 3 (.slice none 0 0)).set 6 (.bool false)).set 4 (.bool false)).set 5 (.int .i64 0))
     have h6:=Sat.osl_nil (T:=162) (sz:=3).2 h5
     exact h6.sel 7 [1,3,6,2,0] rfl rfl
end
section
variable {w0 w:World}{F:List HProp}{m fb nb b r:Nat}{M:Med}{bs:List Nat}{wv v bv lv av:Value}{s:ByteArray}{fs:List Fil}{K:Nat}{f:Fil}
theorem rdsl_cell {a:Option Addr}{n c:Nat}{xs:List Value} (h:rdsl 1 (.slice a n c) xs w){i:Nat}{x:Value} (hi:xs[i]?=some x) :
  ∃ bk off,a=some ⟨bk,off,none⟩∧w.cell? ⟨bk,off+i,none⟩=some x:=by
 obtain ⟨a',n',c',he,hl,hx⟩:=h
 cases he
 obtain ⟨b,rfl,hc⟩:=hx i x hi
 have hlt:i<xs.length:=(List.getElem?_eq_some_iff.1 hi).1
 obtain ⟨y,hy⟩:∃ y,xs[0]?=some y:=⟨xs[0]'oQ,List.getElem?_eq_getElem _⟩
 obtain ⟨b',hb',hc0⟩:=hx 0 y hy
 cases hb'
 obtain ⟨bk,off,spot⟩:=b
 have hs:spot=none:=by simpa [Addr.add] using World.cell?_spot hc0
 subst hs
 refine ⟨bk,off,rfl,?_⟩
 unfold Addr.add at hc
 split at hc
 ·rename_i h0;subst h0;exact hc
 ·exact hc
theorem cut_c (a:Option Addr) (n c k:Nat) (h1:n≤c) (h2:c≤9223372036854775807) (w:World) :
  Calls Tryz.prog 29 #[.slice a n c,.int .i64 k] w (Rtn fun v w'=>v = .slice a (min n k) c∧w=w'):=by
 by_cases hk:k<n
 ·have hk1:(k:Int)<(n:Int):=by omega
  have hk2:(k:Int)≤(c:Int):=by omega
  have e:=uQ (show min n k=k by omega)
  go_enter Tryz.func29,Tryz.ntmps29
  go_wp2
  go_ret
  exact ⟨.slice a k c,rfl,by rw [e.out],rfl⟩
 ·have hk1:¬ (k:Int)<(n:Int):=by omega
  have e:=uQ (show min n k=n by omega)
  go_enter Tryz.func29,Tryz.ntmps29
  go_wp2
  go_ret
  exact ⟨.slice a n c,rfl,by rw [e.out],rfl⟩
theorem numbers_c (a:Option Addr) (n c k:Nat) (h1:n≤c) (h2:c≤9223372036854775807) (w:World) :
  Calls Tryz.prog 23 #[.slice a n c,.int .i64 k] w (Rtn fun v w'=>v = .slice a (min n k) c∧w=w'):=by
 by_cases hk:k<n
 ·have hk1:(k:Int)<(n:Int):=by omega
  have hk2:(k:Int)≤(c:Int):=by omega
  have e:=uQ (show min n k=k by omega)
  go_enter Tryz.func23,Tryz.ntmps23
  go_wp2
  go_ret
  exact ⟨.slice a k c,rfl,by rw [e.out],rfl⟩
 ·have hk1:¬ (k:Int)<(n:Int):=by omega
  have e:=uQ (show min n k=n by omega)
  go_enter Tryz.func23,Tryz.ntmps23
  go_wp2
  go_ret
  exact ⟨.slice a n c,rfl,by rw [e.out],rfl⟩
end
section
variable {w0 w:World}{F:List HProp}{m fb nb b r:Nat}{M:Med}{bs:List Nat}{wv v bv:Value}{s:ByteArray}{fs:List Fil}{K:Nat}
def within (x lo hi:Int):Int:=if x<lo then lo else if hi<x then hi else x
theorem within_c (x lo hi:Int) (w:World):Calls Tryz.prog 15 #[.int .i64 x,.int .i64 lo,.int .i64 hi] w (Rtn fun v w'=>v = .int .i64 (within x lo hi)∧w=w'):=by
 by_cases h1:x<lo
 ·have e:=uQ (show within x lo hi=lo by simp [within,h1])
  go_enter Tryz.func15,Tryz.ntmps15
  go_wp2
  go_ret
  exact ⟨.int .i64 lo,rfl,by rw [e.out],rfl⟩
 ·by_cases h2:hi<x
  ·have e:=uQ (show within x lo hi=hi by simp [within,h1,h2])
   go_enter Tryz.func15,Tryz.ntmps15
   go_wp2
   go_ret
   exact ⟨.int .i64 hi,rfl,by rw [e.out],rfl⟩
  ·have e:=uQ (show within x lo hi=x by simp [within,h1,h2])
   go_enter Tryz.func15,Tryz.ntmps15
   go_wp2
   go_ret
   exact ⟨.int .i64 x,rfl,by rw [e.out],rfl⟩
theorem copy_c (h:Sat w0 w F) (l:Bs) (hr:rdsl 1 bv (bys l) w) (hl:l.length≤1099511627776) :
  Calls Tryz.prog 51 #[bv] w (Rtn fun v w'=>Sat w0 w' (bsl v l::F)∧∃ a n c,v = .slice a n c):=by
 obtain ⟨i,hi,hz0,hz1,hz2⟩:=info8p
 obtain ⟨a,n,c,rfl,hn,_⟩:=id hr
 rw [bys_len,Nat.mul_one]at hn
 have h0:Sat w0 w (osl 5 1 (.slice none 0 0) []::F):=Sat.osl_nil.2 h
 have h63:([]:List Value).length+(bys l).length≤maxLen:=by rw [bys_len];unfold maxLen;simp;omega
 have hby:(([]:List Value).length+(bys l).length) * i.bytes≤140737488355328:=by rw [bys_len,hz2];simp;omega
 have Hn:=uQ hn;clear hn
 go_enter Tryz.func51,Tryz.ntmps51
 go_wp2_with (at_builtin;go_must (refine wpList_append (w0:=w0) rFz _ _ _ rFz _ i _ Tryz.underlying25 hi hz0 hz1 rFz oQ rFz rFz (bys_one _) h0 hr h63 hby ?_);intro v2 w2 hS2 hne)
 obtain ⟨a2,n2,c2,rfl,_⟩:=id hS2.rd
 go_wp2
 go_ret
 exact ⟨_,rfl,hS2,_,_,_,rfl⟩
end
section
variable {w0 w:World}{F:List HProp}{v bv:Value}
def Half (w:World):Prop:=∀ i,i<16→w.cell? ⟨0,i,none⟩=some (.int .u32 (Frm.half.getD i 0:Nat))
theorem not_u32 (s:Nat) (hs:s<4294967296):bits .xor .u32 IntKind.u32.max (s:Int)=((4294967295 - s:Nat):Int):=by
 have h1:IntKind.u32.max=((4294967295:Nat):Int):=by decide
 rw [h1,u32_xor_nat _ _ oQ hs]
 congr 1
 have h2:(4294967295 ^^^ s)=(BitVec.allOnes 32 ^^^ BitVec.ofNat 32 s).toNat:=by
  rw [BitVec.toNat_xor,BitVec.toNat_allOnes,BitVec.toNat_ofNat,Nat.mod_eq_of_lt hs]
 rw [h2,BitVec.allOnes_xor,BitVec.toNat_not,BitVec.toNat_ofNat,Nat.mod_eq_of_lt hs]
theorem and15 (y:Nat) (hy:y<4294967296):bits .and .u32 (y:Int) 15=((y%16:Nat):Int):=by
 have:=u32_and_nat y 15 hy oQ
 rw [nat_mask4]at this
 exact this
theorem xor_half (y h:Nat) (hy:y<4294967296) (hh:h<4294967296):bits .xor .u32 ((y:Int) / 16) (h:Int)=((y / 16 ^^^ h:Nat):Int):=by
 have:=u32_xor_nat (y / 16) h oQ hh
 rw [← this]
 rfl
theorem crcAdd_c (s:Nat) (hs:s<4294967296) (l:Bs) (hH:Ro w0 F Half) (hr:Ro w0 F (rdsl 1 bv (bys l))) (h:Sat w0 w F) (hl:l.length≤1099511627776) :
  Calls Tryz.prog 191 #[.int .u32 s,bv] w (Rtn fun v w'=>v = .int .u32 (Frm.crcAdd s l:Nat)∧w=w'):=by
 obtain ⟨a,n,c,rfl,hn,_⟩:=id (hr w h)
 rw [bys_len,Nat.mul_one]at hn
 subst hn
 have hnot:=not_u32 s hs
 obtain ⟨t0,ht0⟩:∃ t0,t0=4294967295 - s:=⟨_,rfl⟩
 rw [← ht0]at hnot
 have ht:t0<4294967296:=by omega
 have Hr:=uQ hr;have hHw:=uQ (hH w h);have Hl:=uQ hl;have Ht:=uQ ht;have Ht0:=uQ ht0
 clear hr hH hl hs ht ht0
 go_enter Tryz.func191,Tryz.ntmps191
 go_wp2_with fail
 clear hnot
 go_loopg [5,12] l.length (fun g xv iq wr=>∃ (i:Nat),g=l.length - i∧i≤l.length∧iq = .int .i64 i∧xv = .int .u32 ((l.take i).foldl Frm.crcStep t0:Nat)∧wr=w)
 case atStart=>exact ⟨0,rfl,Nat.zero_le _,rfl,rfl,rfl⟩
 case round=>
  obtain ⟨i,rfl,hi,rfl,rfl,rfl⟩:=hrel
  have hxlt:(l.take i).foldl Frm.crcStep t0<4294967296:=Frm.foldl_lt _ _ Ht.out
  by_cases hi':i<l.length
  ·have hb:(bys l)[i]?=some (.int .u8 (l[i]'hi').toNat):=by unfold bys;simp [hi']
   obtain ⟨bk,off,rfl,c1⟩:=rdsl_cell (Hr.out _ h) hb
   have hnext:(l.take (i+1)).foldl Frm.crcStep t0=Frm.fold4 (Frm.fold4 ((l.take i).foldl Frm.crcStep t0 ^^^ (l[i]'hi').toNat)):=by
    rw [List.take_succ_eq_append_getElem hi',List.foldl_append];rfl
   have hic:(i:Int)<(l.length:Int):=by omega
   have hwi:IntKind.i64.wrap ((i:Int)+1)=(i:Int)+1:=IntWalk.i64_in _ (by have h1:=Hl.out;omega)
   have hcb:=(l[i]'hi').toNat_lt
   have Hnext:=uQ hnext
   clear hb hnext
   generalize (l[i]'hi').toNat=cb at *
   generalize (l.take i).foldl Frm.crcStep t0=x at *
   have e1:=u32_xor_nat x cb hxlt oQ
   have hy1:x ^^^ cb<4294967296:=Frm.xor_lt hxlt oQ
   unfold Frm.fold4 at Hnext
   generalize x ^^^ cb=y1 at *
   have e2:=and15 y1 hy1
   have hz1:y1%16<16:=Nat.mod_lt _ oQ
   have g1:=hHw.out (y1%16) hz1
   have e3:=xor_half y1 _ hy1 (Frm.half_lt (y1%16))
   have hy2:y1 / 16 ^^^ Frm.half.getD (y1%16) 0<4294967296:=Frm.xor_lt oQ (Frm.half_lt _)
   generalize Frm.half.getD (y1%16) 0=h1 at *
   generalize y1%16=z1 at *
   generalize y1 / 16 ^^^ h1=y2 at *
   have e4:=and15 y2 hy2
   have hz2:y2%16<16:=Nat.mod_lt _ oQ
   have g2:=hHw.out (y2%16) hz2
   have e5:=xor_half y2 _ hy2 (Frm.half_lt (y2%16))
   generalize Frm.half.getD (y2%16) 0=h2 at *
   generalize y2%16=z2 at *
   generalize y2 / 16 ^^^ h2=y3 at *
   have hcm:(cb:Int)%4294967296=(cb:Int):=by omega
   have hz1i:(z1:Int)<16:=by omega
   have hz2i:(z2:Int)<16:=by omega
   clear hxlt hy1 hy2 hcb
   go_wp2
   go_roundg (l.length - (i+1))
   case measure=>omega
   case rel=>exact ⟨i+1,rfl,Nat.succ_le_of_lt hi',by first|rfl|go_num,by rw [Hnext.out],rfl⟩
  ·obtain rfl:i=l.length:=by omega
   have hic:¬ (l.length:Int)<(l.length:Int):=by omega
   rw [List.take_length]at *
   have hn2:=not_u32 _ hxlt
   have hfin:Frm.crcAdd s l=4294967295 - l.foldl Frm.crcStep t0:=by unfold Frm.crcAdd;rw [Ht0.out]
   rw [← hfin]at hn2
   generalize l.foldl Frm.crcStep t0=x at *
   clear hi hi' hxlt hfin
   go_wp2
   go_ret
   exact ⟨_,rfl,rfl,rfl⟩
theorem crc_c (l:Bs) (hH:Ro w0 F Half) (hr:Ro w0 F (rdsl 1 bv (bys l))) (h:Sat w0 w F) (hl:l.length≤1099511627776) :
  Calls Tryz.prog 150 #[bv] w (Rtn fun v w'=>v = .int .u32 (Frm.crc l:Nat)∧w=w'):=by
 have ha:=crcAdd_c 0 oQ l hH hr h hl
 have hcast:((0:Nat):Int)=0:=rfl
 rw [hcast]at ha
 clear hcast
 obtain ⟨a,n,c,rfl,hn,_⟩:=id (hr w h)
 go_enter Tryz.func150,Tryz.ntmps150
 go_wp2_with fail
 refine ha.mono ?_
 rintro e w1 ⟨v,rfl,rfl,rfl⟩
 clear ha
 go_wp2
 go_ret
 exact ⟨_,rfl,rfl,rfl⟩
end
section
variable {w0 w:World}{F:List HProp}{m fb nb b r:Nat}{M:Med}{bs:List Nat}{wv v bv:Value}{s:ByteArray}{l:Names}{fs:List Fil}{K:Nat}
theorem link_rep (hM:M.Ok K) (hK:K≤1099511627776) (hl:bs.length=M.files.length) (x:Lnk) (h:Sat w0 w (MedRaw m M bs fb nb wv++F)) :
  Calls Tryz.prog 137 #[ptr m,.agg #[.string x.fr,.string x.to,lnkPtr bs x]] w (Rtn fun _ w'=>Sat w0 w' (MedRep m (M.link x)::F)):=by
 refine (link_c x (h.sel 5 [0,1,4,2,3] rfl rfl) (Nat.le_trans hM.budget hK)).mono ?_
 rintro e w1 ⟨v,rfl,wv',hS⟩
 refine ⟨v,rfl,MedRep.shut (bs:=bs) (fb:=fb) (nb:=nb) (wv:=wv') (by simpa [Med.link] using hl) ?_⟩
 exact hS.sel 5 [0,1,3,4,2] rfl rfl
theorem remove_c (hM:M.Ok K) (hK:K≤1099511627776) (h:Sat w0 w (MedRep m M::F)) (s:ByteArray) :
  Calls Tryz.prog 72 #[ptr m,.string s] w (Rtn fun v w'=>v=errno (M.remove s).2∧Sat w0 w' (MedRep m (M.remove s).1::F)):=by
 obtain ⟨bs,fb,nb,wv,hl,hR⟩:=MedRep.open h
 cases ho:M.off
 ·cases hn:nget M.now s with
  |none=>
   have hf:=find_none (s:=s) hR ho hn
   have Hfin:Hid (M.remove s=(M,9)):=by show _=_;simp [Med.remove,ho,hn]
   clear ho hn
   go_enter Tryz.func72,Tryz.ntmps72
   go_wp2_with (first|(go_at_call 136;refine hf.mono ?_;rintro e w1 ⟨v,rfl,rfl,rfl⟩))
   go_ret
   exact ⟨errno 9,rfl,by rw [Hfin.out],by rw [Hfin.out];exact h⟩
  |some i=>
   have hf:=find_some (s:=s) hR ho hn
   have hst:=step_c hR hM.left
   cases hstep:M.step.2
   ·rw [hstep]at hst
    have Hfin:Hid (M.remove s=(M.step.1,12)):=by show _=_;simp [Med.remove,ho,hn,hstep]
    clear ho hn hstep
    go_enter Tryz.func72,Tryz.ntmps72
    go_wp2_with (first|(go_at_call 136;refine hf.mono ?_;rintro e w1 ⟨v,rfl,rfl,rfl⟩)|(go_at_call 132;refine hst.mono ?_;rintro e w1 ⟨v,rfl,rfl,hS1⟩))
    go_ret
    refine ⟨errno 12,rfl,by rw [Hfin.out],?_⟩
    rw [Hfin.out]
    exact MedRep.shut (bs:=bs) (fb:=fb) (nb:=nb) (wv:=wv) (by rw [M.step_same.2.2.2.1];exact hl) (raw_step hS1)
   ·rw [hstep]at hst
    have Hfin:Hid (M.remove s=(M.step.1.link ⟨s,ByteArray.empty,0⟩,0)):=by show _=_;simp [Med.remove,ho,hn,hstep]
    have hl':bs.length=M.step.1.files.length:=by rw [M.step_same.2.2.2.1];exact hl
    have hlp:lnkPtr bs ⟨s,ByteArray.empty,0⟩ = .pointer none:=by unfold lnkPtr;rw [if_pos rfl]
    have Hl':=uQ hl';have Hlp:=uQ hlp
    clear ho hn hstep hl' hlp
    generalize hq:bs.getD i 0=q at hf
    have Hq:=uQ hq;clear hq
    go_enter Tryz.func72,Tryz.ntmps72
    go_wp2_with (first|(go_at_call 136;refine hf.mono ?_;rintro e w1 ⟨v,rfl,rfl,rfl⟩)|(go_at_call 132;fail))
    refine hst.mono ?_
    rintro e w1 ⟨v,rfl,rfl,hS1⟩
    have hlk:=link_rep hM.step hK Hl'.out ⟨s,ByteArray.empty,0⟩ (raw_step hS1)
    rw [Hlp.out]at hlk
    go_wp2_with (go_at_call 137;go_must (refine hlk.mono ?_);rintro e w2 ⟨v2,rfl,hS2⟩)
    go_ret
    refine ⟨errno 0,rfl,by rw [Hfin.out],?_⟩
    rw [Hfin.out]
    exact hS2
 ·have hf:=find_off (s:=s) hR ho
  have Hfin:Hid (M.remove s=(M,12)):=by show _=_;simp [Med.remove,ho]
  clear ho
  go_enter Tryz.func72,Tryz.ntmps72
  go_wp2_with (first|(go_at_call 136;refine hf.mono ?_;rintro e w1 ⟨v,rfl,rfl,rfl⟩))
  go_ret
  exact ⟨errno 12,rfl,by rw [Hfin.out],by rw [Hfin.out];exact h⟩
end
section
variable {w0 w W:World}{F:List HProp}{m fb nb b r:Nat}{M P:Med}{bs:List Nat}{wv v bv dv av cv nv ov lv:Value}{s:ByteArray}{fs:List Fil}{K:Nat}{f:Fil}
theorem bsl_cap {l:Bs} (h:Sat w0 w (bsl v l::F)):capOk v:=by
 rcases Sat.osl_cases h with ⟨rfl,_⟩|⟨b,n',cap',cs,rfl,_,hn,_,hcm,_,_⟩
 ·exact ⟨_,0,0,rfl,Nat.le_refl _,by omega⟩
 ·exact ⟨_,_,_,rfl,hn,hcm⟩
theorem bsl_set {a:Option Addr}{n c:Nat}{l:Bs} (h:Sat w0 w (bsl (.slice a n c) l::F)){i:Nat} (hi:i<l.length) (x:UInt8) :
  ∃ g,a=some ⟨g,0,none⟩∧w.cell? ⟨g,i,none⟩=some (.int .u8 (l[i]'hi).toNat)∧w.frozen? ⟨g,i,none⟩=false∧Sat w0 (w.setCell ⟨g,i,none⟩ (.int .u8 x.toNat)) (bsl (.slice a n c) (l.set i x)::F):=by
 rcases Sat.osl_cases h with ⟨_,hx,_⟩|⟨g,n',cap',cs,he,h1,h2,h3,h4,h5,h6⟩
 ·have:(bys l).length=0:=by rw [hx];rfl
  rw [bys_len]at this;omega
 ·cases he
  have hg:(bys l)[i]?=some (.int .u8 (l[i]'hi).toNat):=by unfold bys;simp [hi]
  refine ⟨g,rfl,h6.cellAt i _ (take_get h5 hg),h6.freeAt i,?_⟩
  have h7:=h6.set i (.int .u8 x.toNat)
  refine Sat.osl_of_pt h7 ?_ h2 (by simpa using h3) h4 ?_
  ·rw [bys_len,List.length_set,← bys_len l];exact h1
  ·rw [Array.toList_setIfInBounds,List.take_set,h5]
   unfold bys
   rw [List.map_set]
theorem bsl_cap' {l:Bs} (h:Sat w0 w (bsl v l::F)):∃ a n c,v = .slice a n c∧n≤c∧c≤9223372036854775807∧n=l.length:=by
 rcases Sat.osl_cases h with ⟨rfl,hx,_⟩|⟨b,n',cap',cs,rfl,hl,hn,hc,hcm,_,_⟩
 ·refine ⟨_,0,0,rfl,Nat.le_refl _,by omega,?_⟩
  have:(bys l).length=0:=by rw [hx];rfl
  rw [bys_len]at this;exact this.symm
 ·refine ⟨_,_,_,rfl,hn,hcm,?_⟩
  rw [bys_len,Nat.mul_one]at hl;exact hl.symm
theorem strs_at {l:List ByteArray}{i:Nat}{x:ByteArray} (h:l[i]?=some x):(strs l)[i]?=some (.string x):=by
 unfold strs
 rw [List.getElem?_map,h];rfl
theorem strs_len (l:List ByteArray):(strs l).length=l.length:=by unfold strs;simp
theorem Ro.more {p:World→Prop}{L:List HProp} (h:Ro w0 F p):Ro w0 (L++F) p:=by
 induction L with
 |nil=>exact h
 |cons A L ih=>exact ih.cons
end
section
variable {w0 w:World}{F:List HProp}{v bv:Value}
theorem put4_c (x:Nat) (hx:x<18446744073709551616) (h:Sat w0 w F) :
  Calls Tryz.prog 149 #[.int .u64 x,.int .i64 4] w (Rtn fun v w'=>Sat w0 w' (bsl v (Frm.le x 4)::F)∧∃ a,v = .slice a 4 4):=by
 have Hx:=uQ hx
 clear hx
 have hmk:∀ w,(Instr.makeSlice 25 (.int .i64 4) (.int .i64 4)).run Tryz.prog w = .ok (.slice (some ⟨w.heap.size,0,none⟩) 4 4) (w.alloc (.cells #[.int .u8 0,.int .u8 0,.int .u8 0,.int .u8 0] 5)):=fun w=>by kernel_rfl
 go_enter Tryz.func149,Tryz.ntmps149
 go_wp2_with fail
 have hA:=h.alloc (.cells #[.int .u8 0,.int .u8 0,.int .u8 0,.int .u8 0] 5)
 have hB:Sat w0 (w.alloc (.cells #[.int .u8 0,.int .u8 0,.int .u8 0,.int .u8 0] 5)) (bsl (.slice (some ⟨w.heap.size,0,none⟩) 4 4) [0,0,0,0]::F):=Sat.osl_of_pt hA rfl (Nat.le_refl _) (Nat.le_refl _) (by unfold maxLen;omega) rfl
 obtain ⟨b0,b1,b2,b3,hb0,hb1,hb2,hb3,hle⟩:∃ b0 b1 b2 b3:UInt8,(x:Int)%256=b0.toNat∧(x:Int) / 256%256=b1.toNat∧(x:Int) / 65536%256=b2.toNat∧(x:Int) / 16777216%256=b3.toNat∧Frm.le x 4=[b0,b1,b2,b3]:=by
  refine ⟨_,_,_,_,?_,?_,?_,?_,rfl⟩
  all_goals (rw [UInt8.toNat_ofNat'];omega)
 have Hle:=uQ hle
 clear hle hmk hA
 generalize w.heap.size=q at *
 go_loopg [17] 4 (fun g iq wr=>∃ (i:Nat) (l':Bs),g=4 - i∧i≤4∧iq = .int .i64 i∧l'=(match i with|0=>[0,0,0,0]|1=>[b0,0,0,0]|2=>[b0,b1,0,0]|3=>[b0,b1,b2,0]|_=>[b0,b1,b2,b3])∧Sat w0 wr (bsl (.slice (some ⟨q,0,none⟩) 4 4) l'::F))
 case atStart=>exact ⟨0,_,rfl,by omega,rfl,rfl,hB⟩
 case round=>
  obtain ⟨i,l',rfl,hi,rfl,hl',hS⟩:=hrel
  clear hB
  obtain rfl|rfl|rfl|rfl|rfl:i=0∨i=1∨i=2∨i=3∨i=4:=by omega
  ·obtain rfl:l'=[0,0,0,0]:=hl'
   obtain ⟨g,he,e0,e1,hS5⟩:=bsl_set (i:=0) hS (by simp) b0
   cases he
   go_wp2_with fail
   go_roundg 3
   case measure=>omega
   case rel=>exact ⟨1,[b0,0,0,0],rfl,by omega,rfl,rfl,hS5⟩
  ·obtain rfl:l'=[b0,0,0,0]:=hl'
   obtain ⟨g,he,e0,e1,hS5⟩:=bsl_set (i:=1) hS (by simp) b1
   cases he
   go_wp2_with fail
   go_roundg 2
   case measure=>omega
   case rel=>exact ⟨2,[b0,b1,0,0],rfl,by omega,rfl,rfl,hS5⟩
  ·obtain rfl:l'=[b0,b1,0,0]:=hl'
   obtain ⟨g,he,e0,e1,hS5⟩:=bsl_set (i:=2) hS (by simp) b2
   cases he
   go_wp2_with fail
   go_roundg 1
   case measure=>omega
   case rel=>exact ⟨3,[b0,b1,b2,0],rfl,by omega,rfl,rfl,hS5⟩
  ·obtain rfl:l'=[b0,b1,b2,0]:=hl'
   obtain ⟨g,he,e0,e1,hS5⟩:=bsl_set (i:=3) hS (by simp) b3
   cases he
   go_wp2_with fail
   go_roundg 0
   case measure=>omega
   case rel=>exact ⟨4,[b0,b1,b2,b3],rfl,by omega,rfl,rfl,hS5⟩
  ·obtain rfl:l'=[b0,b1,b2,b3]:=hl'
   go_wp2
   go_ret
   exact ⟨_,rfl,by rw [Hle.out];exact hS,_,rfl⟩
end
end Go.Proofs.YtlinnpehkfbnkaaGreatDoor
namespace Go.Proofs.YtlinnpehkfbnkaaGreatDoor
open Go Go.Sl Go.Med Go.ChangeShapes Go.WideShapes Go.RowKit
section
variable {H:Type}{enc:TypeId×Value→H}{P:Program}{W:World}{base:Nat}{spare:Nat→Bool}{held:Bool}
theorem flatten_idx {α:Type} (k:Nat) (hk:0<k):∀ (xs:List (List α)) (_:∀ x∈xs,x.length=k) (i:Nat) (y:α),xs.flatten[i]?=some y→∃ x,xs[i / k]?=some x∧x[i%k]?=some y
 |[],_,_,_,h=>by simp at h
 |x::xs,hl,i,y,h=>by
  have hx:=hl x (.head _)
  rw [List.flatten_cons]at h
  rcases Nat.lt_or_ge i k with hi|hi
  ·rw [List.getElem?_append_left oQ]at h
   refine ⟨x,?_,?_⟩
   ·rw [Nat.div_eq_of_lt hi];rfl
   ·rw [Nat.mod_eq_of_lt hi];exact h
  ·rw [List.getElem?_append_right oQ,hx]at h
   obtain ⟨z,h1,h2⟩:=flatten_idx k hk xs (fun q hq=>hl q (.tail _ hq)) (i - k) y h
   have e1:i / k=(i - k) / k+1:=by
    conv=>lhs;rw [show i=(i - k)+k by omega]
    rw [Nat.add_div_right _ hk]
   have e2:i%k=(i - k)%k:=Nat.mod_eq_sub_mod hi
   exact ⟨z,by rw [e1];exact h1,by rw [e2];exact h2⟩
theorem flatten_len {α:Type} (k:Nat):∀ (xs:List (List α)) (_:∀ x∈xs,x.length=k),xs.flatten.length=xs.length * k
 |[],_=>by simp
 |x::xs,hl=>by
  rw [List.flatten_cons,List.length_append,flatten_len k xs (fun q hq=>hl q (.tail _ hq)),hl x (.head _),List.length_cons,Nat.succ_mul];omega
theorem list_of_fun {α:Type}{n:Nat}{p:Nat→α→Prop} (h:∀ i,i<n→∃ x,p i x):∃ l:List α,l.length=n∧∀ i x,l[i]?=some x→p i x:=by
 induction n with
 |zero=>exact ⟨[],rfl,fun i x h=>by simp at h⟩
 |succ n ih=>
  obtain ⟨l,h1,h2⟩:=ih fun i hi=>h i (Nat.lt_succ_of_lt hi)
  obtain ⟨x,hx⟩:=h n (Nat.lt_succ_self n)
  refine ⟨l++[x],by simp [h1],fun i y hy=>?_⟩
  rcases Nat.lt_trichotomy i n with hlt|rfl|hgt
  ·rw [List.getElem?_append_left oQ]at hy;exact h2 i y hy
  ·rw [List.getElem?_append_right oQ,h1,Nat.sub_self]at hy
   cases hy;exact hx
  ·rw [List.getElem?_eq_none (by simp;omega)]at hy;cases hy
theorem open_sl {t e:TypeId}{k fuel:Nat}{v:Value}{x:DataW H×List MemPlace} (ht:P.underlying t=some (.slice e)) (hc:P.cellsOf e=k) (hk:0<k) (h:DataW.trod enc P W base spare held fuel t [v]=some x) :
  ∃ elems:List (List Value),rdsl k v elems.flatten W∧capOk v∧∀ cs∈elems,cs.length=k∧∃ n y,DataW.trod enc P W base spare held n e cs=some y:=by
 rcases Go.Deep.open_slice ht h with ⟨hcs,_⟩|⟨a,len,cap,m,n,D,Pl,hcs,hb,hl,hm,hmm,_,hx⟩
 ·obtain rfl:v = .slice none 0 0:=by simpa using hcs
  exact ⟨[],rdsl_nil _ _ _,⟨_,_,_,rfl,Nat.le_refl _,by omega⟩,by simp⟩
 ·obtain rfl:v = .slice (some a) len cap:=by simpa using hcs
  have hlm:len≤m:=by rw [hmm];split <;> omega
  rw [hc]at hx
  obtain ⟨l,l1,l2⟩:=list_of_fun (n:=len) fun i hi=>hx i oQ
  have hlen:∀ cs∈l,cs.length=k:=by
   intro cs hcs
   obtain ⟨i,hi,rfl⟩:=List.getElem_of_mem hcs
   obtain ⟨h1,_⟩:=l2 i _ (List.getElem?_eq_getElem hi)
   exact (World.cells?_some h1).2.1
  refine ⟨l,⟨some a,len,cap,rfl,by rw [flatten_len k l hlen,l1],fun i y hy=>⟨a,rfl,?_⟩⟩,⟨_,_,_,rfl,hl,by unfold maxLen at hm;omega⟩,fun cs hcs=>⟨hlen cs hcs,?_⟩⟩
  ·obtain ⟨cs,h1,h2⟩:=flatten_idx k hk l hlen i y hy
   obtain ⟨h3,_⟩:=l2 _ _ h1
   have h4:=(World.cells?_some h3).2.2 (i%k) (Nat.mod_lt _ hk)
   rw [Go.Deep.add_add,h2]at h4
   rw [← h4]
   congr 2
   rw [Nat.mul_comm];exact (Nat.div_add_mod i k).symm
  ·obtain ⟨i,hi,rfl⟩:=List.getElem_of_mem hcs
   obtain ⟨_,h2⟩:=l2 i _ (List.getElem?_eq_getElem hi)
   exact ⟨n,_,h2⟩
theorem open_fields {t:TypeId}{fs:Array Field}{fuel:Nat}{cs:List Value}{x:DataW H×List MemPlace} (ht:P.underlying t=some (.struct fs)) (h:DataW.trod enc P W base spare held fuel t cs=some x) :
  cs.length=P.cellsOf t∧∀ (i:Nat) (f:Field),fs[i]?=some f→∃ n y,DataW.trod enc P W base spare held n f.type ((cs.drop f.offset).take (P.cellsOf f.type))=some y:=by
 obtain ⟨xs,n,_,_,hl,hxl,hf⟩:=DataW.trod_struct ht h
 refine ⟨hl,fun i f hi=>⟨n,?_⟩⟩
 have hlt:i<xs.length:=by rw [hxl];exact (Array.getElem?_eq_some_iff.1 hi).1
 exact ⟨xs[i],by rw [hf i f hi];exact List.getElem?_eq_getElem hlt⟩
theorem map_of {α β:Type}{f:α→β}{p:α→Prop}:∀ (l:List β) (_:∀ y∈l,∃ x,f x=y∧p x),∃ xs:List α,xs.map f=l∧∀ x∈xs,p x
 |[],_=>⟨[],rfl,by simp⟩
 |y::l,h=>by
  obtain ⟨x,h1,h2⟩:=h y (.head _)
  obtain ⟨xs,h3,h4⟩:=map_of l fun z hz=>h z (.tail _ hz)
  refine ⟨x::xs,by simp [h1,h3],fun z hz=>?_⟩
  rcases List.mem_cons.1 hz with rfl|hz
  ·exact h2
  ·exact h4 z hz
def toBs (zs:List Int):Bs:=zs.map fun z=>UInt8.ofNat z.toNat
theorem bys_toBs {zs:List Int} (h:∀ z∈zs,(Lit.int .u8 z).wf=true):bys (toBs zs)=zs.map (.int .u8):=by
 unfold bys toBs
 rw [List.map_map]
 apply List.map_congr_left
 intro z hz
 have hb:=bounds_u8 (h z hz)
 simp only [Function.comp,Value.int.injEq,true_and]
 rw [UInt8.toNat_ofNat']
 omega
theorem in_kind {t e:TypeId}{k:IntKind}{fuel:Nat}{v:Value}{x:DataW H×List MemPlace} (ht:P.underlying t=some (.slice e)) (he:P.underlying e=some (.int k)) (hc:P.cellsOf e=1) (h:DataW.trod enc P W base spare held fuel t [v]=some x) :
  ∃ l:List Int,rdsl 1 v (l.map (.int k)) W∧capOk v∧∀ z∈l,(Lit.int k z).wf=true:=by
 obtain ⟨elems,h1,h2,h3⟩:=open_sl ht hc oQ h
 obtain ⟨l,h4,h5⟩:=map_of (f:=fun z:Int=>[Value.int k z]) (p:=fun z=>(Lit.int k z).wf=true) elems fun cs hcs=>by
  obtain ⟨_,n,y,h6⟩:=h3 cs hcs
  obtain ⟨z,hz,_,hw⟩:=DataW.trod_int he h6
  exact ⟨z,hz.symm,hw⟩
 refine ⟨l,?_,h2,h5⟩
 rw [← h4]at h1
 have:(l.map fun z:Int=>[Value.int k z]).flatten=l.map (.int k):=by
  clear h1 h4 h5
  induction l with
  |nil=>rfl
  |cons z l ih=>simp only [List.map_cons,List.flatten_cons,ih];rfl
 rw [this]at h1
 exact h1
theorem in_bys {t e:TypeId}{fuel:Nat}{v:Value}{x:DataW H×List MemPlace} (ht:P.underlying t=some (.slice e)) (he:P.underlying e=some (.int .u8)) (hc:P.cellsOf e=1) (h:DataW.trod enc P W base spare held fuel t [v]=some x) :
  ∃ l:Bs,rdsl 1 v (bys l) W∧capOk v:=by
 obtain ⟨l,h1,h2,h3⟩:=in_kind ht he hc h
 exact ⟨toBs l,by rw [bys_toBs h3];exact h1,h2⟩
theorem in_nums {t e:TypeId}{fuel:Nat}{v:Value}{x:DataW H×List MemPlace} (ht:P.underlying t=some (.slice e)) (he:P.underlying e=some (.int .i64)) (hc:P.cellsOf e=1) (h:DataW.trod enc P W base spare held fuel t [v]=some x) :
  ∃ l:List Int,rdsl 1 v (ints l) W∧capOk v∧∀ z∈l,inI z:=by
 obtain ⟨l,h1,h2,h3⟩:=in_kind ht he hc h
 exact ⟨l,h1,h2,fun z hz=>bounds_i64 (h3 z hz)⟩
theorem cell_old {w:World}{a:Addr}{v:Value} (h:Sat W w [Sl.old W]) (hc:W.cell? a=some v):w.cell? a=some v:=by
 have hlt:a.block<W.heap.size:=by
  rcases Nat.lt_or_ge a.block W.heap.size with h1|h1
  ·exact h1
  ·unfold World.cell? at hc
   rw [Array.getElem?_eq_none h1]at hc
   simp at hc
 unfold World.cell? at hc ⊢
 rw [h.old hlt];exact hc
theorem rd_old {v:Value}{k:Nat}{xs:List Value} (h:rdsl k v xs W):Ro W [Sl.old W] (rdsl k v xs):=by
 intro w hw
 obtain ⟨a,n,c,he,hl,hx⟩:=h
 refine ⟨a,n,c,he,hl,fun i x hi=>?_⟩
 obtain ⟨b,hb,hc⟩:=hx i x hi
 exact ⟨b,hb,cell_old hw hc⟩
theorem own:ownKnob Tryz.prog.godebug=none:=by kernel_rfl
theorem laidOut:laidOutB Tryz.prog=true:=by kernel_rfl
end
end Go.Proofs.YtlinnpehkfbnkaaGreatDoor
