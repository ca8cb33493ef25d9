import Derived.Test.YtlimfgdbfadohaaGreatDoorJ1
import Derived.Sort.OwnSorted
import Derived.Laws.BitsAllLaws
import Derived.Laws.Strings
import Derived.Deep.Slices
import Derived.WalkKit
import Derived.ProofKit
import Derived.OpenShut
import Derived.ShutString
import Derived.ChangeOld
import Derived.Below
import Derived.ChangeKeysEq
import Derived.Laws.Rows
import Derived.Laws.OwnMore
import Derived.Laws.CopyOwn
namespace Go.Sl
open Go
theorem jB {α : Type} : (∀ (l : List α) (i : Nat) (h : i < l.toArray.size), l.toArray[i]'h = l[i]'(by simpa using h)) ∧ (∀ (x : α) (l : List α) (i : Nat) (h : i + 1 < (x :: l).length), (x :: l)[i + 1]'h = l[i]'(by simpa using h)) ∧ (∀ (x : α) (l : List α) (h : 0 < (x :: l).length), (x :: l)[0]'h = x) := ⟨fun _ _ h => List.getElem_toArray h, fun _ _ _ _ => rfl, fun _ _ _ => rfl⟩
section
variable {P : Program} {ops : Array Oper} {Q : Exit → Act → World → Prop} {late : List Nat} {G : World → Prop}
theorem wdQ {n : Nat} {l : Array Bool} {a : Act} {w : World} (h : Q .normal a w) (hr : Region.ready .any ops l = [] := by kernel_rfl) : iK P ops Q late G n l a w := cu hr h
theorem wpQ (i : Nat) {oi : Oper} {v : Value} {n : Nat} {l : Array Bool} {a : Act} {w : World} (hi : ops[i]? = some oi := by rfl) (hc : (Region.noSelect ops && Region.free .any ops l i && (Region.ready .any ops l).contains i && sW ops l) = true := by kernel_rfl) (hQ : ∀ c a w, Q (.panic c) (a.put oi.dst v) w → Q (.panic c) a w := by intro _ _ _ h; exact h) (hw : Region.wanted oi (yielded ops a.tmps) = true := by rfl) (hx : ∀ w, (execOp a.eval oi).run P w = .ok (.value v) w := by ((intro wq; go_simp); first | done | (with_reducible rfl))) (h : iK P ops Q late G n (l.setIfInBounds i true) (a.put oi.dst v) w) : iK P ops Q late G (n + 1) l a w := fP hi hc hQ (.inl ⟨hw, hx⟩) h
end
end Go.Sl
set_option linter.unusedVariables false
set_option maxHeartbeats 128000000
namespace Go.aB
structure bD.Ok (K:Nat) (f:bD):Prop where
 now:f.now=f.at f.waits.length
 cuts:∀ k c,f.waits[k]?=some c→c.cut=true→c.n≤(f.at k).length
 size:∀ k,k≤f.waits.length→(f.at k).length≤16777216
 budget:f.waits.length≤K
theorem bD.DW (f:bD) (c:iF) (k:Nat) (h:k≤f.waits.length):(f.do c).at k=f.at k:=by
 unfold bD.at bD.do
 simp only
 rw [List.take_append_of_le_length h]
theorem bD.xK (f:bD) (k:Nat) (c:iF) (h:f.waits[k]?=some c):f.at (k+1)=c.on (f.at k):=by
 unfold bD.at
 obtain ⟨hlt,rfl⟩:=List.getElem?_eq_some_iff.1 h
 rw [List.take_succ_eq_append_getElem hlt,List.foldl_append]
 rfl
theorem bD.ND (f:bD) (c:iF) (hn:f.now=f.at f.waits.length):(f.do c).at (f.waits.length+1)=c.on f.now:=by
 rw [bD.xK _ _ c (by simp [bD.do]),bD.DW _ _ _ (Nat.le_refl _),hn]
theorem bD.Ok.sH {K:Nat}{f:bD} (h:f.Ok K):f.now.length≤16777216:=by
 rw [h.now];exact h.size _ (Nat.le_refl _)
theorem bD.Ok.mono {K K':Nat}{f:bD} (h:f.Ok K) (hk:K≤K'):f.Ok K':=⟨h.now,h.cuts,h.size,Nat.le_trans h.budget hk⟩
theorem bD.Ok.new (K:Nat):bD.new.Ok K:=⟨rfl,by simp [bD.new],by simp [bD.new,bD.at],by simp [bD.new]⟩
theorem bD.Ok.do {K:Nat}{f:bD} (h:f.Ok K) (c:iF) (h1:c.cut=true→c.n≤f.now.length) (h2:c.cut=false→f.now.length+c.b.length≤16777216):(f.do c).Ok (K+1):=by
 have hw:(f.do c).waits.length=f.waits.length+1:=by simp [bD.do]
 refine ⟨?_,?_,?_,by rw [hw];exact Nat.succ_le_succ h.budget⟩
 ·rw [hw,f.ND c h.now];rfl
 ·intro k c' hk hc
  simp only [bD.do]at hk
  rcases Nat.lt_trichotomy k f.waits.length with hlt|rfl|hgt
  ·rw [List.getElem?_append_left hlt]at hk
   rw [f.DW c k (Nat.le_of_lt hlt)]
   exact h.cuts k c' hk hc
  ·rw [List.getElem?_append_right (Nat.le_refl _),Nat.sub_self]at hk
   simp at hk;subst hk
   rw [f.DW c _ (Nat.le_refl _),← h.now];exact h1 hc
  ·rw [List.getElem?_append_right (Nat.le_of_lt hgt)]at hk
   have:k - f.waits.length≠0:=by omega
   obtain ⟨j,hj⟩:∃ j,k - f.waits.length=j+1:=⟨k - f.waits.length - 1,by omega⟩
   rw [hj]at hk;simp at hk
 ·intro k hk
  rw [hw]at hk
  rcases Nat.lt_or_ge k (f.waits.length+1) with hlt|hge
  ·rw [f.DW c k oQ];exact h.size k oQ
  ·obtain rfl:k=f.waits.length+1:=by omega
   rw [f.ND c h.now]
   unfold iF.on
   cases hc:c.cut
   ·simpa using h2 hc
   ·simp;have:=h.sH;omega
theorem bD.Ok.sync {K:Nat}{f:bD} (h:f.Ok K):f.sync.Ok K:=
 ⟨rfl,by simp [bD.sync],(by simp only [bD.sync,bD.at];intro k _;simpa using h.sH),by simp [bD.sync]⟩
def mV (l:Names):Prop:=l.Pairwise fun a b=>lt a.1 b.1=true
theorem lt_trans {a b c:ByteArray} (h:lt a b=true) (k:lt b c=true):lt a c=true:=by
 simp only [lt,decide_eq_true_eq]at *;exact List.lt_trans h k
theorem lt_irrefl (a:ByteArray):lt a a=false:=by simp [lt,List.lt_irrefl]
theorem abK {a b:ByteArray} (h:a≠b):lt a b=true∨lt b a=true:=by
 simp only [lt,decide_eq_true_eq]
 by_cases h1:a.data.toList<b.data.toList
 ·exact .inl h1
 ·right
  have h2:b.data.toList≤a.data.toList:=List.not_lt.1 h1
  rcases List.le_iff_lt_or_eq.1 h2 with h3|h3
  ·exact h3
  ·exfalso;apply h
   obtain ⟨⟨x⟩⟩:=a;obtain ⟨⟨y⟩⟩:=b
   simp at h3;subst h3;rfl
theorem mV.keys {l:Names} (h:mV l):(l.map (·.1)).Nodup:=by
 rw [List.nodup_iff_pairwise_ne,List.pairwise_map]
 refine h.imp fun {a b} hab e=>?_
 rw [e,lt_irrefl]at hab;cases hab
theorem mV.del {l:Names} (h:mV l) (s:ByteArray):mV (gI l s):=h.sublist List.filter_sublist
theorem mV.ins:∀ {l:Names},mV l→∀ {s:ByteArray} (i:Nat),(∀ p∈l,p.1≠s)→mV (qG l s i)
 |[],_,_,_,_=>List.pairwise_singleton _ _
 |p::l,h,s,i,hs=>by
  unfold qG
  obtain ⟨h1,h2⟩:=List.pairwise_cons.1 h
  split
  ·rename_i hlt
   refine List.pairwise_cons.2 ⟨fun q hq=>?_,h⟩
   rcases List.mem_cons.1 hq with rfl|hq
   ·exact hlt
   ·exact lt_trans hlt (h1 q hq)
  ·rename_i hlt
   have hps:lt p.1 s=true:=(abK (hs p (.head _))).resolve_right (by simpa using hlt)
   refine List.pairwise_cons.2 ⟨fun q hq=>?_,mV.ins h2 i (fun q hq=>hs q (.tail _ hq))⟩
   have:=(JV l s i).mem_iff.1 hq
   rcases List.mem_cons.1 this with rfl|hq
   ·exact hps
   ·exact h1 q hq
theorem mV.put {l:Names} (h:mV l) (s:ByteArray) (i:Nat):mV (kY l s i):=(h.del s).ins i (ab2 l s)
structure oK (n:Nat) (l:Names):Prop where
 qM:mV l
 len:l.length≤500
 ids:∀ p∈l,p.2<n
 ne:∀ p∈l,p.1≠ByteArray.empty
theorem oK.mono {n n':Nat}{l:Names} (h:oK n l) (hn:n≤n'):oK n' l:=⟨h.qM,h.len,fun p hp=>Nat.lt_of_lt_of_le (h.ids p hp) hn,h.ne⟩
theorem RV (l:Names) (s:ByteArray):(gI l s).length≤l.length:=List.length_filter_le _ _
theorem oK.del {n:Nat}{l:Names} (h:oK n l) (s:ByteArray):oK n (gI l s):=
 ⟨h.qM.del s,Nat.le_trans (RV l s) h.len,fun p hp=>h.ids p (List.mem_filter.1 hp).1,fun p hp=>h.ne p (List.mem_filter.1 hp).1⟩
theorem SB (l:Names) (s:ByteArray) (i:Nat):(kY l s i).length=(gI l s).length+1:=(wO l s i).length_eq
theorem oK.put {n:Nat}{l:Names} (h:oK n l) (s:ByteArray) (i:Nat) (hi:i<n) (hl:(gI l s).length<500) (hs:s≠ByteArray.empty):oK n (kY l s i):=by
 refine ⟨h.qM.put s i,by rw [SB];omega,fun p hp=>?_,fun p hp=>?_⟩
 rotate_left
 ·rcases List.mem_cons.1 ((wO l s i).mem_iff.1 hp) with rfl|hp
  ·exact hs
  ·exact h.ne p (List.mem_filter.1 hp).1
 rcases List.mem_cons.1 ((wO l s i).mem_iff.1 hp) with rfl|hp
 ·exact hi
 ·exact h.ids p (List.mem_filter.1 hp).1
structure aB.Ok (K:Nat) (m:aB):Prop where
 room:m.room≤16777216
 left:m.left≤9223372036854775807
 links:∀ x∈m.waits,x.to≠ByteArray.empty→x.f<m.files.length
 names:∀ k,k≤m.waits.length→oK m.files.length (m.mF k)
 now:m.now=m.mF m.waits.length
 files:∀ f∈m.files,f.Ok K
 budget:m.waits.length≤K
theorem aB.Ok.iO {K:Nat}{m:aB} (h:m.Ok K):oK m.files.length m.now:=by rw [h.now];exact h.names _ (Nat.le_refl _)
theorem aB.Ok.Zl {K:Nat}{m:aB} (h:m.Ok K):oK m.files.length m.fast:=h.names 0 (Nat.zero_le _)
theorem aB.Ok.file {K:Nat}{m:aB} (h:m.Ok K) (i:Nat):(m.file i).Ok K:=by
 unfold aB.file
 rcases Nat.lt_or_ge i m.files.length with hi|hi
 ·rw [List.getD_eq_getElem?_getD,List.getElem?_eq_getElem hi];exact h.files _ (List.getElem_mem hi)
 ·rw [List.getD_eq_getElem?_getD,List.getElem?_eq_none hi];exact bD.Ok.new K
theorem aB.Ok.mono {K K':Nat}{m:aB} (h:m.Ok K) (hk:K≤K'):m.Ok K':=
 ⟨h.room,h.left,h.links,h.names,h.now,fun f hf=>(h.files f hf).mono hk,Nat.le_trans h.budget hk⟩
theorem aB.Ok.new (K room:Nat) (h:room≤16777216):(new room).Ok K:=
 ⟨h,by simp [aB.new],by simp [aB.new],(by intro k _;simp [aB.new,aB.mF];exact ⟨List.Pairwise.nil,by simp,by simp,by simp⟩),by simp [aB.new,aB.mF],by simp [aB.new],by simp [aB.new]⟩
theorem aB.Ok.step {K:Nat}{m:aB} (h:m.Ok K):m.step.1.Ok K:=by
 unfold aB.step
 split
 ·split
  ·exact ⟨h.room,h.left,h.links,h.names,h.now,h.files,h.budget⟩
  ·exact ⟨h.room,Nat.le_trans (Nat.sub_le _ _) h.left,h.links,h.names,h.now,h.files,h.budget⟩
 ·exact h
theorem aB.jW (m:aB):m.step.1.room=m.room∧m.step.1.fast=m.fast∧m.step.1.now=m.now∧m.step.1.files=m.files∧m.step.1.waits=m.waits:=by
 unfold aB.step
 split
 ·split <;> exact ⟨rfl,rfl,rfl,rfl,rfl⟩
 ·exact ⟨rfl,rfl,rfl,rfl,rfl⟩
theorem aB.abg (m:aB) (x:iW) (k:Nat) (h:k≤m.waits.length):(m.link x).mF k=m.mF k:=by
 unfold aB.mF aB.link
 simp only
 rw [List.take_append_of_le_length h]
theorem aB.Rn (m:aB) (x:iW) (h:m.now=m.mF m.waits.length):(m.link x).mF (m.waits.length+1)=x.on m.now:=by
 rw [h]
 unfold aB.mF aB.link
 simp only
 rw [List.take_of_length_le (by simp),List.take_of_length_le (Nat.le_refl _),List.foldl_append]
 rfl
theorem aB.Ok.link {K:Nat}{m:aB} (h:m.Ok K) (x:iW) (hf:x.to≠ByteArray.empty→x.f<m.files.length) (hn:oK m.files.length (x.on m.now)):(m.link x).Ok (K+1):=by
 have hw:(m.link x).waits.length=m.waits.length+1:=by simp [aB.link]
 refine ⟨h.room,h.left,?_,?_,?_,fun f hf=>(h.files f hf).mono (Nat.le_succ _),by rw [hw];exact Nat.succ_le_succ h.budget⟩
 ·intro y hy
  simp only [aB.link,List.mem_append,List.mem_singleton]at hy
  rcases hy with hy|rfl
  ·exact h.links y hy
  ·exact hf
 ·intro k hk
  rw [hw]at hk
  rcases Nat.lt_or_ge k (m.waits.length+1) with hlt|hge
  ·rw [m.abg x k oQ];exact h.names k oQ
  ·obtain rfl:k=m.waits.length+1:=by omega
   rw [m.Rn x h.now];exact hn
 ·rw [hw,m.Rn x h.now];rfl
theorem aB.Ok.ig {K:Nat}{m:aB} (h:m.Ok K) (i:Nat) (f:bD) (hf:f.Ok (K+1)):(m.ig i f).Ok (K+1):=by
 have hl:(m.ig i f).files.length=m.files.length:=by simp [aB.ig]
 refine ⟨h.room,h.left,(by rw [hl];exact h.links),(by rw [hl];exact h.names),h.now,?_,Nat.le_succ_of_le h.budget⟩
 intro g hg
 rcases List.mem_or_eq_of_mem_set hg with hg|rfl
 ·exact (h.files g hg).mono (Nat.le_succ _)
 ·exact hf
theorem aB.Ok.ab6 {K:Nat}{m:aB} (h:m.Ok K):({ m with files:=m.files++[bD.new] }:aB).Ok K:=by
 have hl:(m.files++[bD.new]).length=m.files.length+1:=by simp
 refine ⟨h.room,h.left,fun x hx ht=>(by have:=h.links x hx ht;simp only [hl];omega),fun k hk=>(h.names k hk).mono (by simp),h.now,?_,h.budget⟩
 intro f hf
 rcases List.mem_append.1 hf with hf|hf
 ·exact h.files f hf
 ·rw [List.mem_singleton.1 hf];exact bD.Ok.new K
theorem vW {s:ByteArray} (h:good s=true):s≠ByteArray.empty:=by
 intro e;subst e;simp [good]at h
theorem aB.Ok.create {K:Nat}{m:aB} (h:m.Ok K) (s:ByteArray):(m.create s).1.Ok (K+1):=by
 unfold aB.create
 have h':=h.mono (Nat.le_succ K)
 split;· exact h'
 split;· exact h'
 rename_i hg
 split;· exact h'
 rename_i hn
 split;· exact h'
 rename_i hl
 split;· exact h'.step
 have hst:=h.step
 obtain ⟨e1,e2,e3,e4,e5⟩:=m.jW
 have hg':good s=true:=by simpa using hg
 have hn':dD m.now s=none:=by simpa using hn
 have h1:=hst.ab6
 rw [e4]at h1
 refine h1.link _ (fun _=>by simp) ?_
 show oK _ (iW.on _ m.step.1.now)
 rw [e3]
 unfold iW.on
 simp only [if_true,if_neg (vW hg')]
 exact (h.iO.mono (by simp)).put s _ (by simp) (by rw [yC hn'];omega) (vW hg')
theorem Rt:∀ (l:List Nat) (n:Nat),n∈l→n≤l.sum
 |[],_,h=>by cases h
 |x::l,n,h=>by
  rcases List.mem_cons.1 h with rfl|h
  ·simp
  ·have:=Rt l n h;simp;omega
theorem aB.Ok.append {K:Nat}{m:aB} (h:m.Ok K) (s:ByteArray) (b:Bs):(m.append s b).1.Ok (K+1):=by
 unfold aB.append
 have h':=h.mono (Nat.le_succ K)
 split;· exact h'
 split;· exact h'
 rename_i i hi
 split;· exact h'
 rename_i hroom
 split;· exact h'.step
 refine h.step.ig _ _ ((h.file i).do _ (by simp) ?_)
 intro _
 have hu:(m.file i).now.length≤m.used:=by
  unfold aB.used
  have:(s,i)∈m.now:=kX hi
  exact Rt _ _ (List.mem_map.2 ⟨(s,i),this,rfl⟩)
 have:=h.room
 simp only
 omega
theorem aB.Ok.remove {K:Nat}{m:aB} (h:m.Ok K) (s:ByteArray):(m.remove s).1.Ok (K+1):=by
 unfold aB.remove
 have h':=h.mono (Nat.le_succ K)
 split;· exact h'
 split;· exact h'
 rename_i i hi
 split;· exact h'.step
 obtain ⟨e1,e2,e3,e4,e5⟩:=m.jW
 refine h.step.link _ (fun hh=>absurd rfl hh) ?_
 rw [e3,e4]
 unfold iW.on
 have hs:s≠ByteArray.empty:=h.iO.ne _ (kX hi)
 simp only [if_true,if_neg hs]
 exact h.iO.del s
theorem aB.Ok.sync {K:Nat}{m:aB} (h:m.Ok K) (s:ByteArray):(m.sync s).1.Ok (K+1):=by
 unfold aB.sync
 have h':=h.mono (Nat.le_succ K)
 split;· exact h'
 split;· exact h'
 rename_i i hi
 split;· exact h'.step
 exact h.step.ig _ _ ((h.file i).sync.mono (Nat.le_succ _))
theorem afP (l:List Nat) (b:Nat) (h:∀ x∈l,x≤b):l.sum≤l.length * b:=by
 induction l with
 |nil=>simp
 |cons x l ih=>
  have h1:=h x (.head _)
  have h2:=ih fun y hy=>h y (.tail _ hy)
  simp only [List.sum_cons,List.length_cons,Nat.add_mul]
  omega
theorem aB.Ok.Va {K:Nat}{m:aB} (h:m.Ok K):m.used≤8388608000:=by
 unfold aB.used
 have h1:=afP (m.now.map fun p=>(m.file p.2).now.length) 16777216 (by
  intro x hx
  obtain ⟨p,_,rfl⟩:=List.mem_map.1 hx
  exact (h.file p.2).sH)
 have:=h.iO.len
 rw [List.length_map]at h1
 have:=Nat.mul_le_mul_right 16777216 this
 omega
end Go.aB
namespace Go.Proofs.YtlimfgdbfadohaaGreatDoor
open Go Go.Sl Go.aB Go.MapKept Go.RowKit
section
variable {w0 w:World}{F:List aC}{m fb nb b r:Nat}{M:aB}{bs:List Nat}{wv v bv:Value}{s:ByteArray}{l:Names}{fs:List bD}
theorem Ej (h:Sat w0 w (mX bs fs::F)) (hl:bs.length=fs.length){i:Nat} (hi:i<fs.length) :
  ∃ fa fn fc na nc wv,w.cell? ⟨bs.getD i 0,0,none⟩=some (.slice fa fn fc)∧w.cell? ⟨bs.getD i 0,1,none⟩=some (.slice na (fs.getD i bD.new).now.length nc)∧w.cell? ⟨bs.getD i 0,2,none⟩=some wv ∧
   bK 1 (.slice na (fs.getD i bD.new).now.length nc) (ay (fs.getD i bD.new).now) w∧(fs.getD i bD.new).now.length≤nc∧nc≤9223372036854775807∧(na=none∧nc=0∨∃ g,na=some ⟨g,0,none⟩):=by
 obtain ⟨G,h1,_⟩:=Iq bs fs i hl hi
 rw [h1]at h
 obtain ⟨fv,nv,wv,ws,hws,h⟩:=jT.open (Sat.star.1 h)
 obtain ⟨fa,fn,fc,rfl,_⟩:=(h.sel 2 [1] rfl rfl).rd
 have hN:=h.sel 3 [2] rfl rfl
 have hr:=hN.rd
 rcases Sat.jR hN with ⟨rfl,hx,_⟩|⟨g,n,cap,cs,rfl,hx,h1,_,h3,_,_⟩
 ·have hx0:(fs.getD i bD.new).now.length=0:=by rw [← aU];exact congrArg List.length hx
  rw [hx0]
  exact ⟨fa,fn,fc,none,0,wv,h.cellAt 0 _ rfl,h.cellAt 1 _ rfl,h.cellAt 2 _ rfl,hr,Nat.le_refl _,by omega,.inl ⟨rfl,rfl⟩⟩
 ·rw [aU,Nat.mul_one]at hx
  subst hx
  exact ⟨fa,fn,fc,_,cap,wv,h.cellAt 0 _ rfl,h.cellAt 1 _ rfl,h.cellAt 2 _ rfl,hr,h1,h3,.inr ⟨g,rfl⟩⟩
theorem JG {todo:Names}{k v:Value}{left:List (Value×Value)} (h:(dO bs todo).Perm ((k,v)::left)) :
  ∃ p todo',todo.Perm (p::todo')∧k = .string p.1∧v=ptr (bs.getD p.2 0)∧left.Perm (dO bs todo'):=by
 have hm:(k,v)∈dO bs todo:=h.mem_iff.2 (.head _)
 obtain ⟨p,hp,e⟩:=List.mem_map.1 hm
 simp only [Prod.mk.injEq]at e
 obtain ⟨t1,t2,rfl⟩:=List.append_of_mem hp
 have h1:(t1++p::t2).Perm (p::(t1++t2)):=List.perm_middle
 refine ⟨p,t1++t2,h1,e.1.symm,e.2.symm,?_⟩
 have h2:((k,v)::left).Perm ((k,v)::dO bs (t1++t2)):=by
  refine h.symm.trans ((EJ h1).trans ?_)
  show List.Perm ((Value.string p.1,ptr (bs.getD p.2 0))::dO bs (t1++t2)) _
  rw [e.1,e.2]
 exact (List.Perm.cons_inv h2)
def sumOf (M:aB) (l:Names):Nat:=(l.map fun p=>(M.file p.2).now.length).sum
theorem afO {l l':Names} (h:l.Perm l'):sumOf M l=sumOf M l':=(h.map _).sum_nat
abbrev U9 (m:Nat) (M:aB) (fb nb:Nat) (wv:Value) (bs:List Nat) (F:List aC):List aC:=mG m M fb nb wv::omap .string nb (dO bs M.now)::mX bs M.files::F
theorem agE (h:Sat w0 w (U9 m M fb nb wv bs F)) (hl:bs.length=M.files.length) (hid:∀ p∈M.now,p.2<M.files.length) (hu:M.used≤9223372036854775807) :
  Calls Tryz.prog 204 #[ptr m] w (aI fun v w'=>v = .int .i64 M.rU∧Sat w0 w' (U9 m M fb nb wv bs F)):=by
 have hd:=xQ h
 have c2:=h.cellAt 2 _ rfl
 cases ho:M.off
 ·rw [ho]at hd
  have Hu:Hid (M.rU=M.used):=by show _=_;unfold aB.rU;rw [ho];rfl
  clear ho
  go_enter Tryz.func204,Tryz.ntmps204
  go_wp2_with (first
   |(go_at_call 106;refine hd.mono ?_;rintro e w1 ⟨v,rfl,rfl,rfl⟩)
   |(at_range;go_must (refine LC ah _ _ _ _ ah Tryz.underlying68 ah h.aP ?_);intro r w1 hS))
  go_frame
  go_loopg [3] M.now.length (fun g n wr=>∃ (acc:Nat) (todo:Names) (left:List (Value×Value)),n = .int .i64 acc∧g=todo.length∧left.Perm (dO bs todo)∧(∀ p∈todo,p∈M.now)∧acc+sumOf M todo=M.used ∧
   Sat w0 wr (rng .string nb r (dO bs M.now) left::mG m M fb nb wv::mX bs M.files::F))
  case atStart=>exact ⟨0,M.now,_,rfl,rfl,List.Perm.refl _,fun _ h=>h,by simp [aB.used,sumOf],hS⟩
  case round=>
   obtain ⟨acc,todo,left,rfl,rfl,hleft,hsub,hacc,hS⟩:=hrel
   have Gg:=uQ hacc
   have xG:=uQ hsub
   have hb:acc≤M.used:=by omega
   clear hacc hsub
   go_wp2_with (first
    |(at_next;go_must (refine Lu ah _ ah ah hS ?_ ?_)))
   ·intro hnil
    have Aw:=uQ hnil;clear hnil
    go_wp2
    go_ret
    refine ⟨.int .i64 acc,rfl,?_,?_⟩
    ·have h0:todo=[]:=by
      have:=hleft
      rw [Aw.out]at this
      simpa [dO] using this.symm
     subst h0
     have:=Gg.out
     simp only [sumOf,List.map_nil,List.sum_nil,Nat.add_zero]at this
     rw [Hu.out,this]
    ·exact (hS.KE).aP
   ·intro k v left' w1 hp hS1 hen
    obtain ⟨p,todo',hp',rfl,rfl,hl'⟩:=JG (hleft.symm.trans hp)
    have hpi:p.2<M.files.length:=hid p (xG.out p (hp'.mem_iff.2 (.head _)))
    obtain ⟨fa,fn,fc,na,nc,wv',f0,f1,f2,_,_,_,hna⟩:=Ej (hS1.sel 3 [2] rfl rfl) hl hpi
    have hsum:Hid (sumOf M todo=(M.file p.2).now.length+sumOf M todo'):=by
     show _=_
     rw [afO hp'];simp [sumOf]
    have hb2:acc+(M.file p.2).now.length≤M.used:=by
     have h1:=Gg.out
     have h2:=hsum.out
     omega
    have Hp:=uQ hp'
    have Hl:=uQ hl'
    clear hp hp' hl' hleft
    clear hna
    change w1.cell? ⟨bs.getD p.2 0,1,none⟩=some (.slice na (M.file p.2).now.length nc) at f1
    generalize bs.getD p.2 0=q at *
    generalize hL:(M.file p.2).now.length=L at *
    have HL:=uQ hL;clear hL
    go_wp2
    go_roundg todo'.length
    case measure=>have:=Hp.out.length_eq;simp at this;omega
    case rel=>
     refine ⟨acc+L,todo',left',by go_num,rfl,Hl.out,fun x hx=>xG.out x (Hp.out.mem_iff.2 (.tail _ hx)),?_,hS1⟩
     have h1:=Gg.out
     have h2:=hsum.out
     omega
 ·rw [ho]at hd
  have Hu:Hid (M.rU=0):=by show _=_;unfold aB.rU;rw [ho];rfl
  clear ho
  go_enter Tryz.func204,Tryz.ntmps204
  go_wp2_with (go_at_call 106;refine hd.mono ?_;rintro e w1 ⟨v,rfl,rfl,rfl⟩)
  go_ret
  exact ⟨.int .i64 0,rfl,by rw [Hu.out];rfl,h⟩
end
section
variable {w0 w:World}{F:List aC}{m fb nb b r:Nat}{M:aB}{bs:List Nat}{wv v bv:Value}{s:ByteArray}{l:Names}{fs:List bD}
open Go.Sort in
theorem sort_c (ss:List (List UInt8)) (h:Sat w0 w (aF 9 1 v (ss.map encStr)::F)) (hsz:ss.length<4611686018427387904) :
  Calls Tryz.prog 151 #[v] w (aI fun _ w'=>Sat w0 w' (aF 9 1 v ((ss.mergeSort fun x y=>decide (x≤y)).map encStr)::F)):=by
 rcases h.jR with ⟨rfl,hn,h'⟩|⟨g,n,cap,cs,rfl,hl,hn,hc,hcm,htk,hp⟩
 ·have hn':ss=[]:=by simpa using hn
  subst hn'
  refine (Tryz.slices_Sort_string_none none 0 w).mono ?_
  rintro e w1 ⟨rfl,rfl⟩
  exact ⟨_,rfl,by simpa using h⟩
 ·have hl':n=ss.length:=by simpa using hl.symm
  subst hl'
  rw [Nat.mul_one]at htk
  refine (Tryz.slices_Sort_string g 0 cap ss w (holds_of_block hp.at htk) hp.lt hsz).mono ?_
  rintro e w1 ⟨rfl,n,os,rfl⟩
  refine ⟨_,rfl,?_⟩
  have hg:=grownBy_sorted (w:=w) (g:=g) (n:=n) (os:=os) (ss.mergeSort fun x y=>decide (x≤y)).toArray
  have:=hp.turn hg.os hg.tape hg.output hg.size (heap_sorted (n:=n) (os:=os) (ss.mergeSort fun x y=>decide (x≤y)).toArray hp.at) (fun i hi hlt=>hg.block i hlt (by simpa using hi))
  refine this.jV (by simp) hn (by simpa [Sort.putCells] using hc) hcm ?_
  have h1:=take_putCells cs (ss.mergeSort fun x y=>decide (x≤y)) (by rw [List.length_mergeSort];omega)
  rw [List.length_mergeSort]at h1
  rw [Nat.mul_one];exact h1
theorem OX (s:ByteArray):encStr s.data.toList = .string s:=by simp [encStr]
theorem afu {l:Names} (hs:mV l){ks:List ByteArray} (hp:ks.Perm (l.map (·.1))) :
  ((ks.map fun s=>s.data.toList).mergeSort fun x y=>decide (x≤y)).map encStr=l.map fun p=> .string p.1:=by
 have h1:((ks.map fun s=>s.data.toList).mergeSort fun x y=>decide (x≤y))=l.map fun p=>p.1.data.toList:=by
  refine List.Perm.eq_of_pairwise (le:=fun x y=>decide (x≤y)=true) ?_ ?_ ?_ ?_
  ·intro a b _ _ h1 h2
   simp only [decide_eq_true_eq]at h1 h2
   exact List.le_antisymm h1 h2
  ·refine List.pairwise_mergeSort ?_ ?_ _
   ·intro a b c h1 h2
    simp only [decide_eq_true_eq]at *
    exact List.le_trans h1 h2
   ·intro a b
    simp only [Bool.or_eq_true,decide_eq_true_eq]
    exact List.le_total a b
  ·rw [List.pairwise_map]
   refine hs.imp fun {a b} hab=>?_
   simp only [lt,decide_eq_true_eq]at hab ⊢
   exact List.le_of_lt hab
  ·refine (List.mergeSort_perm _ _).trans ?_
   have:=hp.map fun s:ByteArray=>s.data.toList
   rw [List.map_map]at this
   exact this
 rw [h1,List.map_map]
 apply List.map_congr_left
 intro p _
 exact OX p.1
theorem aaU:(Tryz.prog.info? 9).map (fun i=>(i.zero,i.size,i.bytes))=some (some (.string ByteArray.empty),1,16):=by kernel_rfl
def strs (l:List ByteArray):List Value:=l.map Value.string
theorem afM (l:List ByteArray):strs l=(l.map fun s=>s.data.toList).map encStr:=by
 unfold strs;rw [List.map_map];apply List.map_congr_left;intro s _;exact (OX s).symm
theorem abZ (h:Sat w0 w (omap .string b (dO bs l)::F)) (hs:mV l) (hl:l.length≤1099511627776) :
  Calls Tryz.prog 107 #[.map (some b)] w (aI fun v w'=>Sat w0 w' (aF 9 1 v (strs (l.map (·.1)))::omap .string b (dO bs l)::F)∧∃ a n c,v = .slice a n c):=by
 obtain ⟨i,hi,hz0,hz1,hz2⟩:=info_parts aaU
 have Hs:=uQ hs;clear hs
 go_enter Tryz.func107,Tryz.ntmps107
 go_wp2_with (at_range;go_must (refine LC ah _ _ _ _ ah Tryz.underlying68 ah h ?_);intro r w1 hS)
 go_frame
 go_loopg [3] l.length (fun g n wr=>∃ (ks:List ByteArray) (todo:Names) (left:List (Value×Value)),g=todo.length∧left.Perm (dO bs todo)∧(ks++todo.map (·.1)).Perm (l.map (·.1)) ∧
   Sat w0 wr (aF 9 1 n (strs ks)::rng .string b r (dO bs l) left::F))
 case atStart=>exact ⟨[],l,_,rfl,List.Perm.refl _,List.Perm.refl _,by unfold strs;exact Sat.fM.2 hS⟩
 case round=>
  obtain ⟨ks,todo,left,rfl,hleft,hperm,hS⟩:=hrel
  have hlen:ks.length+todo.length=l.length:=by have:=hperm.length_eq;simpa using this
  obtain ⟨oa,on,oc,rfl,hoc,_⟩:=hS.rd
  clear hoc
  have Aq:=uQ hleft
  have yX:=uQ hperm
  clear hleft hperm
  go_wp2_with (at_next;go_must (refine Lu ah _ ah ah hS.aP ?_ ?_))
  ·intro hnil
   have Aw:=uQ hnil;clear hnil
   have h0:todo=[]:=by
    have:=Aq.out
    rw [Aw.out]at this
    simpa [dO] using this.symm
   subst h0
   have hk:ks.Perm (l.map (·.1)):=by simpa using yX.out
   have hsort:=sort_c (ks.map fun s=>s.data.toList) (by rw [← afM];exact hS) (by simp at hlen ⊢;omega)
   rw [afu Hs.out hk]at hsort
   have Hk:=uQ hk;clear hk
   go_wp2_with (go_at_call 151;refine hsort.mono ?_;rintro e w2 ⟨v,rfl,hS2⟩)
   go_ret
   refine ⟨_,rfl,?_,_,_,_,rfl⟩
   have h9:=(hS2.aP.KE).aP
   have e1:strs (l.map (·.1))=l.map fun p=>Value.string p.1:=by unfold strs;rw [List.map_map];rfl
   rw [e1];exact h9
  ·intro k v left' w1 hp hS1 hen
   obtain ⟨p,todo',hp',rfl,rfl,hl'⟩:=JG (Aq.out.symm.trans hp)
   have hlen2:todo.length=todo'.length+1:=by have:=hp'.length_eq;simpa using this
   have Hp:=uQ hp'
   have Hl:=uQ hl'
   clear hp hp' hl'
   have hb1:=hS1.aP.alloc (.cells #[.string p.1] 9)
   have h63:(strs ks).length+1≤maxLen:=by unfold strs maxLen;rw [List.length_map];omega
   have hby:((strs ks).length+1) * i.bytes≤140737488355328:=by unfold strs;rw [List.length_map,hz2];omega
   have hoc:∀ u∈(#[.string p.1]:Array Value).toList,u.oneCell'=true:=by
    intro u hu
    simp only [List.mem_cons,List.not_mem_nil,or_false]at hu
    subst hu;rfl
   go_wp2_with (at_builtin;go_must (refine yN (w0:=w0) ah _ _ _ ah _ i _ Tryz.underlying152 hi hz0 hz1 ah oQ ah ah hoc hb1.aP (yE _ _ _ 1 1 1 ah) h63 hby ?_);intro v2 w2 hS2 hne)
   go_roundg todo'.length
   case measure=>omega
   case rel=>
    refine ⟨ks++[p.1],todo',left',rfl,Hl.out,?_,?_⟩
    ·refine List.Perm.trans ?_ yX.out
     rw [List.append_assoc]
     exact List.Perm.append_left ks (show List.Perm ((p::todo').map (·.1)) _ from (Hp.out.map (·.1)).symm)
    ·have:strs (ks++[p.1])=strs ks++[.string p.1]:=by simp [strs]
     rw [this]
     exact hS2.sel 3 [0,2] rfl rfl
theorem YC (h:Sat w0 w (omap .string b (dO bs l)::F)) :
  Calls Tryz.prog 170 #[.map (some b)] w (aI fun v w'=>∃ b',v = .map (some b')∧Sat w0 w' (omap .string b' (dO bs l)::omap .string b (dO bs l)::F)):=by
 have hn:=JF h
 have hmm:=@run_makeMap Tryz.prog
 have h0:=h.ES .string
 have Hn:=uQ hn;clear hn
 go_enter Tryz.func170,Tryz.ntmps170
 go_wp2_with (at_range;go_must (refine LC ah _ _ _ _ ah Tryz.underlying68 ah h0.aP ?_);intro r w1 hS)
 go_frame
 generalize w.heap.size=b' at *
 go_loopg [4,5] l.length (fun g _ _ wr=>∃ (done todo:Names) (left:List (Value×Value)),g=todo.length∧left.Perm (dO bs todo)∧(done++todo).Perm l ∧
   Sat w0 wr (omap .string b' (dO bs done)::rng .string b r (dO bs l) left::F))
 case atStart=>exact ⟨[],l,_,rfl,List.Perm.refl _,List.Perm.refl _,hS.aP⟩
 case round=>
  obtain ⟨done,todo,left,rfl,hleft,hperm,hS⟩:=hrel
  have Aq:=uQ hleft
  have yX:=uQ hperm
  clear hleft hperm
  go_wp2_with (at_next;go_must (refine Lu ah _ ah ah hS.aP ?_ ?_))
  ·intro hnil
   have Aw:=uQ hnil;clear hnil
   have h0:todo=[]:=by
    have:=Aq.out
    rw [Aw.out]at this
    simpa [dO] using this.symm
   subst h0
   have hk:done.Perm l:=by simpa using yX.out
   have Hk:=uQ hk;clear hk
   go_wp2
   go_ret
   refine ⟨_,rfl,b',rfl,?_⟩
   exact ((hS.aP.KE).aP).ET (EJ Hk.out)
  ·intro k v left' w1 hp hS1 hen
   obtain ⟨p,todo',hp',rfl,rfl,hl'⟩:=JG (Aq.out.symm.trans hp)
   have hlen2:todo.length=todo'.length+1:=by have:=hp'.length_eq;simpa using this
   have hkey:∀ x∈dO bs done,x.1 ≠ .string p.1:=by
    intro x hx e
    obtain ⟨q,hq,rfl⟩:=List.mem_map.1 hx
    simp only [Value.string.injEq]at e
    have h1:=((yX.out.map (·.1)).nodup_iff.2 Hn.out)
    rw [List.map_append,List.nodup_append]at h1
    exact h1.2.2 q.1 (List.mem_map.2 ⟨q,hq,rfl⟩) p.1 (List.mem_map.2 ⟨p,hp'.mem_iff.2 (.head _),rfl⟩) e
   have hside:(dO bs done).Perm (dO bs done)∧(∀ x∈dO bs done,x.1 ≠ .string p.1)∨∃ v0,(dO bs done).Perm ((.string p.1,v0)::dO bs done):= .inl ⟨List.Perm.refl _,hkey⟩
   have Xh:=uQ hside;clear hside hkey
   have Hp:=uQ hp'
   have Hl:=uQ hl'
   clear hp hp' hl'
   generalize hq:ptr (bs.getD p.2 0)=q at *
   have Hq:=uQ hq;clear hq
   go_wp2_with (at_mapUpdate;go_must (refine LD (key:= .string p.1) ah _ _ _ ah Tryz.underlying68 Tryz.underlying9 ah ah ah trivial hS1.aP _ Xh.out ?_);intro w2 hS2)
   go_roundg todo'.length
   case measure=>omega
   case rel=>
    refine ⟨p::done,todo',left',rfl,Hl.out,?_,?_⟩
    ·refine List.Perm.trans ?_ yX.out
     exact (List.perm_middle.symm).trans (List.Perm.append_left done Hp.out.symm)
    ·show Sat w0 _ (omap .string b' ((.string p.1,ptr (bs.getD p.2 0))::dO bs done)::_)
     rw [Hq.out];exact hS2
end
section
variable {w0 w:World}{F:List aC}{m fb nb b r:Nat}{M:aB}{bs:List Nat}{wv v bv:Value}{s:ByteArray}{l:Names}{fs:List bD}{K:Nat}
theorem UC (hM:M.Ok K) (h:Sat w0 w (aT m M::F)) (s:ByteArray) :
  Calls Tryz.prog 74 #[ptr m,.string s] w (aI fun v w'=>v = .tuple #[.int .i64 (M.size s).1,errno (M.size s).2]∧w=w'):=by
 obtain ⟨bs,fb,nb,wv,hl,hR⟩:=aT.open h
 cases ho:M.off
 ·cases hn:dD M.now s with
  |none=>
   have hf:=zC (s:=s) hR ho hn
   have bV:Hid (M.size s=(0,9)):=by show _=_;simp [aB.size,ho,hn]
   clear ho hn
   go_enter Tryz.func74,Tryz.ntmps74
   go_wp2_with (go_at_call 108;refine hf.mono ?_;rintro e w1 ⟨v,rfl,rfl,rfl⟩)
   go_ret2
   exact ⟨_,rfl,by rw [bV.out];rfl,rfl⟩
  |some i=>
   have hf:=zF (s:=s) hR ho hn
   have hid:i<M.files.length:=hM.iO.ids (s,i) (kX hn)
   obtain ⟨fa,fn,fc,na,nc,wv',f0,f1,f2,_,_,_,hna⟩:=Ej (hR.sel 3 [2] rfl rfl) hl hid
   have bV:Hid (M.size s=(((M.file i).now.length:Int),0)):=by show _=_;simp [aB.size,ho,hn]
   clear ho hn hna
   change w.cell? ⟨bs.getD i 0,1,none⟩=some (.slice na (M.file i).now.length nc) at f1
   generalize bs.getD i 0=q at *
   go_enter Tryz.func74,Tryz.ntmps74
   go_wp2_with (go_at_call 108;refine hf.mono ?_;rintro e w1 ⟨v,rfl,rfl,rfl⟩)
   go_ret2
   refine ⟨.tuple #[.int .i64 (M.file i).now.length,errno 0],rfl,?_,rfl⟩
   rw [bV.out]
 ·have hf:=zD (s:=s) hR ho
  have bV:Hid (M.size s=(0,12)):=by show _=_;simp [aB.size,ho]
  clear ho
  go_enter Tryz.func74,Tryz.ntmps74
  go_wp2_with (go_at_call 108;refine hf.mono ?_;rintro e w1 ⟨v,rfl,rfl,rfl⟩)
  go_ret2
  exact ⟨_,rfl,by rw [bV.out];rfl,rfl⟩
theorem XM (hM:M.Ok K) (h:Sat w0 w (aT m M::F)) (s:ByteArray) :
  Calls Tryz.prog 115 #[ptr m,.string s] w (aI fun v w'=>∃ bv,v = .tuple #[bv,errno (M.all s).2]∧Sat w0 w' (aK bv (M.all s).1::aT m M::F)):=by
 obtain ⟨bs,fb,nb,wv,hl,hR⟩:=aT.open h
 cases ho:M.off
 ·cases hn:dD M.now s with
  |none=>
   have hf:=zC (s:=s) hR ho hn
   have bV:Hid (M.all s=([],9)):=by show _=_;simp [aB.all,ho,hn]
   clear ho hn
   go_enter Tryz.func115,Tryz.ntmps115
   go_wp2_with (go_at_call 108;refine hf.mono ?_;rintro e w1 ⟨v,rfl,rfl,rfl⟩)
   go_ret2
   exact ⟨_,rfl,.slice none 0 0,by rw [bV.out];rfl,by rw [bV.out];exact Sat.fM.2 h⟩
  |some i=>
   have hf:=zF (s:=s) hR ho hn
   have hid:i<M.files.length:=hM.iO.ids (s,i) (kX hn)
   obtain ⟨fa,fn,fc,na,nc,wv',f0,f1,f2,hrd,hcap,hnc,hna⟩:=Ej (hR.sel 3 [2] rfl rfl) hl hid
   have hcl:=qA h hrd (by have:=(hM.file i).sH;unfold aB.file at this;omega)
   have bV:Hid (M.all s=((M.file i).now,0)):=by show _=_;simp [aB.all,ho,hn]
   clear ho hn hrd hcap hnc hna
   change w.cell? ⟨bs.getD i 0,1,none⟩=some (.slice na (M.file i).now.length nc) at f1
   change Calls _ _ #[.slice na (M.file i).now.length nc] _ _ at hcl
   generalize bs.getD i 0=q at *
   go_enter Tryz.func115,Tryz.ntmps115
   go_wp2_with (first
    |(go_at_call 108;refine hf.mono ?_;rintro e w1 ⟨v,rfl,rfl,rfl⟩)
    |(go_at_call 26;refine hcl.mono ?_;rintro e w1 ⟨v,rfl,hS,_⟩))
   go_ret2
   exact ⟨_,rfl,v,by rw [bV.out];rfl,by rw [bV.out];exact hS⟩
 ·have hf:=zD (s:=s) hR ho
  have bV:Hid (M.all s=([],12)):=by show _=_;simp [aB.all,ho]
  clear ho
  go_enter Tryz.func115,Tryz.ntmps115
  go_wp2_with (go_at_call 108;refine hf.mono ?_;rintro e w1 ⟨v,rfl,rfl,rfl⟩)
  go_ret2
  exact ⟨_,rfl,.slice none 0 0,by rw [bV.out];rfl,by rw [bV.out];exact Sat.fM.2 h⟩
theorem Kz {a:Option Addr}{n c lo k:Nat}{xs:List Value} (h:bK 1 (.slice a n c) xs w) (hk:lo+k≤n) (x:Option Addr) (hx:x=if c=lo then a else a.map (·.add lo)) (hc:n≤c) (c':Nat):bK 1 (.slice x k c') ((xs.drop lo).take k) w:=by
 obtain ⟨a',n',c'',he,hl,hcell⟩:=h
 cases he
 rw [Nat.mul_one]at hl
 refine ⟨x,k,c',rfl,by simp;omega,fun i y hi=>?_⟩
 rw [List.getElem?_take]at hi
 split at hi
 ·rename_i hik
  rw [List.getElem?_drop]at hi
  obtain ⟨b,hb,hy⟩:=hcell _ y hi
  subst hb
  have:¬ c=lo:=by omega
  rw [if_neg this]at hx
  refine ⟨b.add lo,by simpa using hx,?_⟩
  have:(b.add lo).add i=b.add (lo+i):=by
   unfold Addr.add
   by_cases h1:lo=0
   ·subst h1;simp
   ·by_cases h2:i=0
    ·subst h2;simp
    ·simp [h1,h2];omega
  rw [this];exact hy
 ·cases hi
theorem ado (hM:M.Ok K) (h:Sat w0 w (aT m M::F)) (s:ByteArray) (at_ n:Int) (ha : -9223372036854775808≤at_∧at_≤9223372036854775807) (hn : -9223372036854775808≤n∧n≤9223372036854775807) :
  Calls Tryz.prog 98 #[ptr m,.string s,.int .i64 at_,.int .i64 n] w (aI fun v w'=>∃ bv,v = .tuple #[bv,errno (M.read s at_ n).2]∧Sat w0 w' (aK bv (M.read s at_ n).1::aT m M::F)):=by
 obtain ⟨bs,fb,nb,wv,hl,hR⟩:=aT.open h
 obtain ⟨ha1,ha2⟩:=ha
 obtain ⟨hn1,hn2⟩:=hn
 cases ho:M.off
 ·cases hg:dD M.now s with
  |none=>
   have hf:=zC (s:=s) hR ho hg
   have bV:Hid (M.read s at_ n=([],9)):=by show _=_;simp [aB.read,ho,hg]
   clear ho hg
   go_enter Tryz.func98,Tryz.ntmps98
   go_wp2_with (go_at_call 108;refine hf.mono ?_;rintro e w1 ⟨v,rfl,rfl,rfl⟩)
   go_ret2
   exact ⟨_,rfl,.slice none 0 0,by rw [bV.out];rfl,by rw [bV.out];exact Sat.fM.2 h⟩
  |some i=>
   have hf:=zF (s:=s) hR ho hg
   have hid:i<M.files.length:=hM.iO.ids (s,i) (kX hg)
   obtain ⟨fa,fn,fc,na,nc,wv',f0,f1,f2,hrd,hcap,hnc,hna⟩:=Ej (hR.sel 3 [2] rfl rfl) hl hid
   have hnl:=(hM.file i).sH
   change w.cell? ⟨bs.getD i 0,1,none⟩=some (.slice na (M.file i).now.length nc) at f1
   change bK 1 (.slice na (M.file i).now.length nc) (ay (M.file i).now) w at hrd
   change (M.file i).now.length≤nc at hcap
   generalize hL:(M.file i).now=L at *
   have HL:=uQ hL;clear hL
   generalize bs.getD i 0=q at *
   have Hg:=uQ hg;have Ho:=uQ ho;clear hg ho
   have hread:∀ x:Bs×Int,x=(if at_<0∨n<0 then ([],2) else if (L.length:Int)<at_∨(L.length:Int) - at_<n then ([],3) else ((L.drop at_.toNat).take n.toNat,0))→M.read s at_ n=x:=by
    rintro x rfl
    simp only [aB.read,Ho.out,Hg.out,HL.out,Bool.false_eq_true,if_false]
   have nT:=uQ hread;clear hread
   by_cases h1:at_<0
   ·go_enter Tryz.func98,Tryz.ntmps98
    go_wp2_with (go_at_call 108;refine hf.mono ?_;rintro e w1 ⟨v,rfl,rfl,rfl⟩)
    go_ret2
    have:=nT.out _ (if_pos (.inl h1)).symm
    exact ⟨_,rfl,.slice none 0 0,by rw [this];rfl,by rw [this];exact Sat.fM.2 h⟩
   have h1':decide (at_<0)=false:=by simpa using h1
   by_cases h2:n<0
   ·go_enter Tryz.func98,Tryz.ntmps98
    go_wp2_with (go_at_call 108;refine hf.mono ?_;rintro e w1 ⟨v,rfl,rfl,rfl⟩)
    go_ret2
    have:=nT.out _ (if_pos (.inr h2)).symm
    exact ⟨_,rfl,.slice none 0 0,by rw [this];rfl,by rw [this];exact Sat.fM.2 h⟩
   have h2':decide (n<0)=false:=by simpa using h2
   obtain ⟨a,rfl⟩:=Int.eq_ofNat_of_zero_le (show 0≤at_ by omega)
   obtain ⟨k,rfl⟩:=Int.eq_ofNat_of_zero_le (show 0≤n by omega)
   have h12:¬ ((a:Int)<0∨(k:Int)<0):=by omega
   by_cases h3:(L.length:Int)<a
   ·go_enter Tryz.func98,Tryz.ntmps98
    go_wp2_with (go_at_call 108;refine hf.mono ?_;rintro e w1 ⟨v,rfl,rfl,rfl⟩)
    go_ret2
    have:=nT.out _ ((if_neg h12).trans (if_pos (.inl h3))).symm
    exact ⟨_,rfl,.slice none 0 0,by rw [this];rfl,by rw [this];exact Sat.fM.2 h⟩
   have h3':decide ((L.length:Int)<a)=false:=by simpa using h3
   by_cases h4:(L.length:Int) - a<k
   ·go_enter Tryz.func98,Tryz.ntmps98
    go_wp2_with (go_at_call 108;refine hf.mono ?_;rintro e w1 ⟨v,rfl,rfl,rfl⟩)
    go_ret2
    have:=nT.out _ ((if_neg h12).trans (if_pos (.inr h4))).symm
    exact ⟨_,rfl,.slice none 0 0,by rw [this];rfl,by rw [this];exact Sat.fM.2 h⟩
   have h4':decide ((L.length:Int) - a<k)=false:=by simpa using h4
   have Z5:¬ ((L.length:Int)<a∨(L.length:Int) - a<k):=by omega
   have hfin:=nT.out _ ((if_neg h12).trans (if_neg Z5)).symm
   have bV:=uQ hfin;clear hfin
   have hcl:∀ x,x=(if nc=a then na else na.map (·.add a))→Calls Tryz.prog 26 #[.slice x k (nc - a)] w (aI fun v' w'=>Sat w0 w' (aK v' ((L.drop a).take k)::aT m M::F)∧∃ a n c,v' = .slice a n c):=by
    intro x hx
    refine qA h ?_ (by simp;omega)
    have:=Kz (lo:=a) (k:=k) hrd oQ x hx hcap (nc - a)
    simpa [ay,List.map_take,List.map_drop] using this
   have gy:=uQ hcl
   clear hcl hrd
   have e5:(a:Int)+k≤nc:=by omega
   rcases hna with ⟨rfl,rfl⟩|⟨g,rfl⟩
   ·obtain rfl:a=0:=by omega
    obtain rfl:k=0:=by omega
    have hcl:=gy.out none (by simp)
    simp only [Nat.sub_self]at hcl
    clear nT gy
    go_enter Tryz.func98,Tryz.ntmps98
    go_wp2_with (first|(go_at_call 108;refine hf.mono ?_;rintro e w1 ⟨v,rfl,rfl,rfl⟩)|(go_at_call 26;go_must (refine hcl.mono ?_);rintro e w1 ⟨v,rfl,hS,_⟩))
    go_ret2
    exact ⟨_,rfl,v,by rw [bV.out];rfl,by rw [bV.out];exact hS⟩
   ·clear nT
    by_cases hca:nc=a
    ·subst hca
     obtain rfl:k=0:=by omega
     have hcl:=gy.out (some ⟨g,0,none⟩) (by simp)
     simp only [Nat.sub_self]at hcl
     clear gy
     go_enter Tryz.func98,Tryz.ntmps98
     go_wp2_with (first|(go_at_call 108;refine hf.mono ?_;rintro e w1 ⟨v,rfl,rfl,rfl⟩)|(go_at_call 26;go_must (refine hcl.mono ?_);rintro e w1 ⟨v,rfl,hS,_⟩))
     go_ret2
     exact ⟨_,rfl,v,by rw [bV.out];rfl,by rw [bV.out];exact hS⟩
    ·have hcl:=gy.out (some ⟨g,a,none⟩) (by rw [if_neg hca];simp [pG])
     clear gy
     go_enter Tryz.func98,Tryz.ntmps98
     go_wp2_with (first|(go_at_call 108;refine hf.mono ?_;rintro e w1 ⟨v,rfl,rfl,rfl⟩)|(go_at_call 26;go_must (refine hcl.mono ?_);rintro e w1 ⟨v,rfl,hS,_⟩))
     go_ret2
     exact ⟨_,rfl,v,by rw [bV.out];rfl,by rw [bV.out];exact hS⟩
 ·have hf:=zD (s:=s) hR ho
  have bV:Hid (M.read s at_ n=([],12)):=by show _=_;simp [aB.read,ho]
  clear ho
  go_enter Tryz.func98,Tryz.ntmps98
  go_wp2_with (go_at_call 108;refine hf.mono ?_;rintro e w1 ⟨v,rfl,rfl,rfl⟩)
  go_ret2
  exact ⟨_,rfl,.slice none 0 0,by rw [bV.out];rfl,by rw [bV.out];exact Sat.fM.2 h⟩
end
section
variable {w0 w:World}{F:List aC}{m fb nb b r:Nat}{M:aB}{bs:List Nat}{wv v bv:Value}{s:ByteArray}{l:Names}{fs:List bD}{K:Nat}
theorem acd (room:Nat) (hr:room≤16777216) (h:Sat w0 w F) :
  Calls Tryz.prog 17 #[.int .i64 room] w (aI fun v w'=>∃ m,v = .tuple #[ptr m,errno 0]∧Sat w0 w' (aT m (aB.new room)::F)):=by
 have h2:decide ((room:Int)<0)=false:=by rw [decide_eq_false_iff_not];omega
 have h3:decide (16777216<(room:Int))=false:=by rw [decide_eq_false_iff_not];omega
 have hmm:=@run_makeMap Tryz.prog
 have hA:=((h.ES .string).ES .string)
 have hB:=hA.alloc (.cells #[.int .i64 room,.map (some w.heap.size),.map (some (w.heap.size+1)),.slice none 0 0,.bool false,.int .i64 0,.bool false] 71)
 go_enter Tryz.func17,Tryz.ntmps17
 go_wp2
 go_ret2
 refine ⟨_,rfl,_,rfl,?_⟩
 refine aT.shut (bs:=[]) (fb:=w.heap.size) (nb:=w.heap.size+1) (wv:= .slice none 0 0) rfl ?_
 have h5:Sat w0 _ (aF 280 3 (.slice none 0 0) []::Sl.emp::_::_::_::F):=Sat.fM.2 (Sat.emp.2 hB)
 simp only [World.size_alloc]at h5
 exact h5.sel 5 [2,3,1,4,0] rfl rfl
theorem Ry (hM:M.Ok K) (h:Sat w0 w (aT m M::F)) :
  Calls Tryz.prog 72 #[ptr m] w (aI fun v w'=>Sat w0 w' (aF 9 1 v (strs M.list)::aT m M::F)∧∃ a n c,v = .slice a n c):=by
 obtain ⟨bs,fb,nb,wv,hl,hR⟩:=aT.open h
 have hd:=xQ hR
 have c2:=hR.cellAt 2 _ rfl
 cases ho:M.off
 ·rw [ho]at hd
  have hnm:=abZ (hR.sel 5 [1,0,2,3,4] rfl rfl) hM.iO.qM (by have:=hM.iO.len;omega)
  have bV:Hid (M.list=M.now.map (·.1)):=by show _=_;simp [aB.list,ho]
  clear ho
  go_enter Tryz.func72,Tryz.ntmps72
  go_wp2_with (first|(go_at_call 106;refine hd.mono ?_;rintro e w1 ⟨v,rfl,rfl,rfl⟩)|(go_at_call 107;go_must (refine hnm.mono ?_);rintro e w1 ⟨v,rfl,hS,a1,n1,k1,rfl⟩))
  go_ret
  refine ⟨_,rfl,?_,_,_,_,rfl⟩
  rw [bV.out]
  exact (aT.shut hl (hS.sel 6 [2,1,3,4,5,0] rfl rfl)).aP
 ·rw [ho]at hd
  have bV:Hid (M.list=[]):=by show _=_;simp [aB.list,ho]
  clear ho
  go_enter Tryz.func72,Tryz.ntmps72
  go_wp2_with (go_at_call 106;refine hd.mono ?_;rintro e w1 ⟨v,rfl,rfl,rfl⟩)
  go_ret
  refine ⟨.slice none 0 0,rfl,?_,_,_,_,rfl⟩
  rw [bV.out]
  exact Sat.fM.2 h
end
section
variable {w0 w:World}{F:List aC}{m fb nb b r:Nat}{M:aB}{bs:List Nat}{wv v bv:Value}{s:ByteArray}{l:Names}{fs:List bD}{K:Nat}
theorem PZ (bs:List Nat) (b i:Nat) (h:i<bs.length):(bs++[b]).getD i 0=bs.getD i 0:=by
 simp [List.getD_eq_getElem?_getD,List.getElem?_append_left h]
theorem RP (h:∀ p∈l,p.2<bs.length) (b:Nat):dO (bs++[b]) l=dO bs l:=by
 unfold dO
 apply List.map_congr_left
 intro p hp
 rw [PZ bs b p.2 (h p hp)]
theorem aby {ws:List iW} (h:∀ x∈ws,x.to≠ByteArray.empty→x.f<bs.length) (b:Nat):ws.flatMap (lU (bs++[b]))=ws.flatMap (lU bs):=by
 induction ws with
 |nil=>rfl
 |cons x ws ih=>
  rw [List.flatMap_cons,List.flatMap_cons,ih fun y hy=>h y (.tail _ hy)]
  congr 1
  unfold lU
  by_cases ht:x.to=ByteArray.empty
  ·simp [ht]
  ·simp only [if_neg ht]
   rw [PZ bs b x.f (h x (.head _) ht)]
theorem abt (h:Sat w0 w (omap .string b (dO bs l)::F)) (ty:TypeId):(Builtin.len_ #[68] ty #[.map (some b)]).run Tryz.prog w = .ok (.int .i64 l.length) w:=by
 have:=aeB (P:=Tryz.prog) Tryz.underlying68 ty h
 simpa [dO] using this
theorem uH (h:Sat w0 w (mG m M.step.1 fb nb wv::[omap .string nb (dO bs M.now),mX bs M.files,omap .string fb (dO bs M.fast),aF 280 3 wv (M.waits.flatMap (lU bs))]++F)):Sat w0 w (tN m M.step.1 bs fb nb wv++F):=by
 obtain ⟨e1,e2,e3,e4,e5⟩:=M.jW
 unfold tN
 rw [e2,e3,e4,e5]
 exact h
theorem VR (h:Sat w0 w (zB b (.slice none 0 0) (.slice none 0 0) (.slice none 0 0)::F)):Sat w0 w (jT b bD.new::F):=by
 refine jT.shut (fv:= .slice none 0 0) (nv:= .slice none 0 0) (wv:= .slice none 0 0) (ws:=[]) rfl ?_
 have h1:Sat w0 w (aK (.slice none 0 0) []::aK (.slice none 0 0) []::aF 128 3 (.slice none 0 0) []::su []::_):=Sat.fM.2 (Sat.fM.2 (Sat.fM.2 (Sat.emp.2 h)))
 exact h1.sel 5 [4,0,1,2,3] rfl rfl
theorem YI (hM:M.Ok K) (hK:K≤1099511627776) (hl:bs.length=M.files.length) (hs:s≠ByteArray.empty) (h:Sat w0 w (tN m M bs fb nb wv++F)) :
  Calls Tryz.prog 169 #[ptr m,.agg #[.string { data:=#[] },.string s,ptr w.heap.size]] (w.alloc (.cells #[.slice none 0 0,.slice none 0 0,.slice none 0 0] 76))
   (aI fun _ w'=>Sat w0 w' (aT m (({ M with files:=M.files++[bD.new] }:aB).link ⟨ByteArray.empty,s,M.files.length⟩)::F)):=by
 have h1:=h.alloc (.cells #[.slice none 0 0,.slice none 0 0,.slice none 0 0] 76)
 have h2:=VR h1
 generalize w.heap.size=q at *
 have e1:dO (bs++[q]) M.now=dO bs M.now:=RP (fun p hp=>by rw [hl];exact hM.iO.ids p hp) q
 have e2:dO (bs++[q]) M.fast=dO bs M.fast:=RP (fun p hp=>by rw [hl];exact hM.Zl.ids p hp) q
 have e3:M.waits.flatMap (lU (bs++[q]))=M.waits.flatMap (lU bs):=aby (fun x hx ht=>by rw [hl];exact hM.links x hx ht) q
 have e4:mX (bs++[q]) (M.files++[bD.new])=star (jT q bD.new) (mX bs M.files):=O8 _ _ _ _ hl
 have h3:Sat w0 _ (jT q bD.new::mX bs M.files::mG m M fb nb wv::omap .string nb (dO bs M.now)::aF 280 3 wv (M.waits.flatMap (lU bs))::omap .string fb (dO bs M.fast)::F):=h2.sel 6 [0,3,1,2,5,4] rfl rfl
 have h4:=Sat.star.2 h3
 rw [← e4,← e1,← e2,← e3]at h4
 have h5:=h4.sel 5 [1,2,3,0,4] rfl rfl
 have hlk:=Rx (M:={ M with files:=M.files++[bD.new] }) (bs:=bs++[q]) ⟨ByteArray.empty,s,M.files.length⟩ h5 (Nat.le_trans hM.budget hK)
 have e5:og (bs++[q]) ⟨ByteArray.empty,s,M.files.length⟩=ptr q:=by
  unfold og
  rw [if_neg hs]
  simp [List.getD_eq_getElem?_getD,← hl]
 rw [e5]at hlk
 refine hlk.mono ?_
 rintro e w1 ⟨v,rfl,wv',hS⟩
 refine ⟨v,rfl,aT.shut (bs:=bs++[q]) (fb:=fb) (nb:=nb) (wv:=wv') (by simp [aB.link,hl]) ?_⟩
 exact hS.sel 5 [0,1,3,4,2] rfl rfl
theorem YG (hM:M.Ok K) (hK:K≤1099511627776) (h:Sat w0 w (aT m M::F)) (s:ByteArray) (hs:s.size≤9223372036854775807) :
  Calls Tryz.prog 180 #[ptr m,.string s] w (aI fun v w'=>v=errno (M.create s).2∧Sat w0 w' (aT m (M.create s).1::F)):=by
 obtain ⟨bs,fb,nb,wv,hl,hR⟩:=aT.open h
 have hd:=xQ hR
 have hg:=ZU s w hs
 have c2:=hR.cellAt 2 _ rfl
 cases ho:M.off
 ·rw [ho]at hd
  cases hgs:good s
  ·rw [hgs]at hg
   have bV:Hid (M.create s=(M,7)):=by show _=_;simp [aB.create,ho,hgs]
   clear ho hgs
   go_enter Tryz.func180,Tryz.ntmps180
   go_wp2_with (first|(go_at_call 106;refine hd.mono ?_;rintro e w1 ⟨v,rfl,rfl,rfl⟩)|(go_at_call 207;refine hg.mono ?_;rintro e w1 ⟨v,rfl,rfl,rfl⟩))
   go_ret
   exact ⟨errno 7,rfl,by rw [bV.out],by rw [bV.out];exact h⟩
  rw [hgs]at hg
  have hlk:=JB (s:=s) (hR.aP)
  cases hn:dD M.now s with
  |some i=>
   have bV:Hid (M.create s=(M,10)):=by show _=_;simp [aB.create,ho,hgs,hn]
   rw [x8,hn]at hlk
   clear ho hgs hn
   simp only at hlk
   generalize bs.getD i 0=q at hlk
   go_enter Tryz.func180,Tryz.ntmps180
   go_wp2_with (first|(go_at_call 106;refine hd.mono ?_;rintro e w1 ⟨v,rfl,rfl,rfl⟩)|(go_at_call 207;refine hg.mono ?_;rintro e w1 ⟨v,rfl,rfl,rfl⟩))
   go_ret
   exact ⟨errno 10,rfl,by rw [bV.out],by rw [bV.out];exact h⟩
  |none=>
   rw [x8,hn]at hlk
   simp only at hlk
   have hlen:=fun ty=>abt (hR.aP) ty
   by_cases IJ:500≤(M.now.length:Int)
   ·have bV:Hid (M.create s=(M,16)):=by
     show _=_
     have:500≤M.now.length:=by omega
     simp [aB.create,ho,hgs,hn,this]
    clear ho hgs hn
    go_enter Tryz.func180,Tryz.ntmps180
    go_wp2_with (first|(go_at_call 106;refine hd.mono ?_;rintro e w1 ⟨v,rfl,rfl,rfl⟩)|(go_at_call 207;refine hg.mono ?_;rintro e w1 ⟨v,rfl,rfl,rfl⟩))
    go_ret
    exact ⟨errno 16,rfl,by rw [bV.out],by rw [bV.out];exact h⟩
   have Et:¬ 500≤M.now.length:=by omega
   have hb5:decide ((500:Int)≤(M.now.length:Int))=false:=by rw [decide_eq_false_iff_not];exact IJ
   have hst:=Ac hR hM.left
   cases hstep:M.step.2
   ·rw [hstep]at hst
    have bV:Hid (M.create s=(M.step.1,12)):=by show _=_;simp [aB.create,ho,hgs,hn,Et,hstep]
    clear ho hgs hn hstep IJ Et
    go_enter Tryz.func180,Tryz.ntmps180
    go_wp2_with (first|(go_at_call 106;refine hd.mono ?_;rintro e w1 ⟨v,rfl,rfl,rfl⟩)|(go_at_call 207;refine hg.mono ?_;rintro e w1 ⟨v,rfl,rfl,rfl⟩)|(go_at_call 168;refine hst.mono ?_;rintro e w1 ⟨v,rfl,rfl,hS1⟩))
    go_ret
    refine ⟨errno 12,rfl,by rw [bV.out],?_⟩
    rw [bV.out]
    exact aT.shut (bs:=bs) (fb:=fb) (nb:=nb) (wv:=wv) (by rw [M.jW.2.2.2.1];exact hl) (uH hS1)
   ·rw [hstep]at hst
    have bV:Hid (M.create s=(({ M.step.1 with files:=M.files++[bD.new] }:aB).link ⟨ByteArray.empty,s,M.files.length⟩,0)):=by show _=_;simp [aB.create,ho,hgs,hn,Et,hstep]
    have hne:=vW hgs
    clear ho hgs hn hstep IJ Et
    have hl':bs.length=M.step.1.files.length:=by rw [M.jW.2.2.2.1];exact hl
    have Ap:=uQ hl';clear hl'
    go_enter Tryz.func180,Tryz.ntmps180
    go_wp2_with (first|(go_at_call 106;refine hd.mono ?_;rintro e w1 ⟨v,rfl,rfl,rfl⟩)|(go_at_call 207;refine hg.mono ?_;rintro e w1 ⟨v,rfl,rfl,rfl⟩)|(go_at_call 168;refine hst.mono ?_;rintro e w1 ⟨v,rfl,rfl,hS1⟩)|(go_at_call 169;go_must (refine (YI hM.step hK Ap.out hne (uH hS1)).mono ?_);rintro e w2 ⟨v2,rfl,hS2⟩))
    go_ret
    refine ⟨errno 0,rfl,by rw [bV.out],?_⟩
    rw [bV.out]
    have e4:=M.jW.2.2.2.1
    rw [e4]at hS2
    exact hS2
 ·rw [ho]at hd
  have bV:Hid (M.create s=(M,12)):=by show _=_;simp [aB.create,ho]
  clear ho
  go_enter Tryz.func180,Tryz.ntmps180
  go_wp2_with (go_at_call 106;refine hd.mono ?_;rintro e w1 ⟨v,rfl,rfl,rfl⟩)
  go_ret
  exact ⟨errno 12,rfl,by rw [bV.out],by rw [bV.out];exact h⟩
end
section
variable {w0 w:World}{F:List aC}{m fb nb b r:Nat}{M:aB}{bs:List Nat}{wv v bv:Value}{s:ByteArray}{l:Names}{fs:List bD}{K:Nat}
theorem Tm (hl:bs.length=M.files.length){i:Nat} (hi:i<M.files.length) (h:Sat w0 w (tN m M bs fb nb wv++F)) :
  ∃ G:aC,Sat w0 w (jT (bs.getD i 0) (M.file i)::mG m M fb nb wv::omap .string nb (dO bs M.now)::omap .string fb (dO bs M.fast)::aF 280 3 wv (M.waits.flatMap (lU bs))::G::F) ∧
   ∀ (w':World) (f':bD),Sat w0 w' (jT (bs.getD i 0) f'::mG m M fb nb wv::omap .string nb (dO bs M.now)::omap .string fb (dO bs M.fast)::aF 280 3 wv (M.waits.flatMap (lU bs))::G::F)→Sat w0 w' (aT m (M.ig i f')::F):=by
 obtain ⟨G,h1,h2⟩:=Iq bs M.files i hl hi
 refine ⟨G,?_,fun w' f' h'=>?_⟩
 ·have h3:=h.sel 5 [2,0,1,3,4] rfl rfl
  have h4:Sat w0 w (mX bs M.files::mG m M fb nb wv::omap .string nb (dO bs M.now)::omap .string fb (dO bs M.fast)::aF 280 3 wv (M.waits.flatMap (lU bs))::F):=h3
  rw [h1]at h4
  exact (Sat.star.1 h4).sel 6 [0,2,3,4,5,1] rfl rfl
 ·refine aT.shut (bs:=bs) (fb:=fb) (nb:=nb) (wv:=wv) (by simp [aB.ig,hl]) ?_
  have h4:Sat w0 w' (jT (bs.getD i 0) f'::G::mG m M fb nb wv::omap .string nb (dO bs M.now)::omap .string fb (dO bs M.fast)::aF 280 3 wv (M.waits.flatMap (lU bs))::F):=h'.sel 6 [0,5,1,2,3,4] rfl rfl
  have h5:=Sat.star.2 h4
  rw [← h2]at h5
  exact h5.sel 5 [1,2,0,3,4] rfl rfl
theorem afT (hM:M.Ok K) (h:Sat w0 w (aT m M::F)) (s:ByteArray) :
  Calls Tryz.prog 206 #[ptr m,.string s] w (aI fun v w'=>v=errno (M.sync s).2∧Sat w0 w' (aT m (M.sync s).1::F)):=by
 obtain ⟨bs,fb,nb,wv,hl,hR⟩:=aT.open h
 cases ho:M.off
 ·cases hn:dD M.now s with
  |none=>
   have hf:=zC (s:=s) hR ho hn
   have bV:Hid (M.sync s=(M,9)):=by show _=_;simp [aB.sync,ho,hn]
   clear ho hn
   go_enter Tryz.func206,Tryz.ntmps206
   go_wp2_with (go_at_call 108;refine hf.mono ?_;rintro e w1 ⟨v,rfl,rfl,rfl⟩)
   go_ret
   exact ⟨errno 9,rfl,by rw [bV.out],by rw [bV.out];exact h⟩
  |some i=>
   have hf:=zF (s:=s) hR ho hn
   have hid:i<M.files.length:=hM.iO.ids (s,i) (kX hn)
   have hst:=Ac hR hM.left
   cases hstep:M.step.2
   ·rw [hstep]at hst
    have bV:Hid (M.sync s=(M.step.1,12)):=by show _=_;simp [aB.sync,ho,hn,hstep]
    clear ho hn hstep
    go_enter Tryz.func206,Tryz.ntmps206
    go_wp2_with (first|(go_at_call 108;refine hf.mono ?_;rintro e w1 ⟨v,rfl,rfl,rfl⟩)|(go_at_call 168;refine hst.mono ?_;rintro e w1 ⟨v,rfl,rfl,hS1⟩))
    go_ret
    refine ⟨errno 12,rfl,by rw [bV.out],?_⟩
    rw [bV.out]
    exact aT.shut (bs:=bs) (fb:=fb) (nb:=nb) (wv:=wv) (by rw [M.jW.2.2.2.1];exact hl) (uH hS1)
   ·rw [hstep]at hst
    have bV:Hid (M.sync s=(M.step.1.ig i (M.file i).sync,0)):=by show _=_;simp [aB.sync,ho,hn,hstep]
    clear ho hn hstep
    have hl':bs.length=M.step.1.files.length:=by rw [M.jW.2.2.2.1];exact hl
    have I5:i<M.step.1.files.length:=by rw [M.jW.2.2.2.1];exact hid
    have hfe:M.step.1.file i=M.file i:=by unfold aB.file;rw [M.jW.2.2.2.1]
    have hnl:=(hM.file i).sH
    have Ap:=uQ hl';have Gj:=uQ hfe
    clear hl' hfe
    generalize hq:bs.getD i 0=q at hf
    have Hq:=uQ hq;clear hq
    go_enter Tryz.func206,Tryz.ntmps206
    go_wp2_with (first|(go_at_call 108;refine hf.mono ?_;rintro e w1 ⟨v,rfl,rfl,rfl⟩)|(go_at_call 168;fail))
    refine hst.mono ?_
    rintro e w1 ⟨v,rfl,rfl,hS1⟩
    obtain ⟨G,h1,h2⟩:=Tm Ap.out I5 (uH hS1)
    rw [Gj.out,Hq.out]at h1
    rw [Hq.out]at h2
    obtain ⟨fv,nv,wv',ws,hws,h3⟩:=jT.open h1
    have H2:=uQ h2;clear h2 hS1 h1 hws
    have h4:Sat w0 w1 (zB q fv nv wv'::aK nv (M.file i).now::_):=h3.sel 3 [0,2] rfl rfl
    have c1:=h4.cellAt 1 _ rfl
    obtain ⟨na,nn,nc,rfl⟩:=H9 h4.aP
    have hcl:=qA h4 h4.aP.rd oQ
    go_wp2_with (go_at_call 26;go_must (refine hcl.mono ?_);rintro e w2 ⟨v2,rfl,hS2,a2,n2,k2,rfl⟩;have g0:=hS2.aP.nY 0;have g2:=hS2.aP.nY 2;have d0:=hS2.aP.cellAt 0 _ rfl;have d2:=hS2.aP.cellAt 2 _ rfl)
    go_ret
    refine ⟨errno 0,rfl,by rw [bV.out],?_⟩
    rw [bV.out]
    refine H2.out _ _ ?_
    have h5:=(hS2.aP.set 0 (.slice a2 n2 k2)).set 2 (.slice none 0 0)
    refine jT.shut (fv:= .slice a2 n2 k2) (nv:= .slice na nn nc) (wv:= .slice none 0 0) (ws:=[]) rfl ?_
    have h6:Sat w0 _ (aF 128 3 (.slice none 0 0) []::su []::_::_::_::aF _ _ _ _::su _::_):=Sat.fM.2 (Sat.emp.2 h5)
    exact h6.sel 7 [2,3,4,0,1] rfl rfl
 ·have hf:=zD (s:=s) hR ho
  have bV:Hid (M.sync s=(M,12)):=by show _=_;simp [aB.sync,ho]
  clear ho
  go_enter Tryz.func206,Tryz.ntmps206
  go_wp2_with (go_at_call 108;refine hf.mono ?_;rintro e w1 ⟨v,rfl,rfl,rfl⟩)
  go_ret
  exact ⟨errno 12,rfl,by rw [bV.out],by rw [bV.out];exact h⟩
end
section
variable {w0 w:World}{F:List aC}{m fb nb b r:Nat}{M:aB}{bs:List Nat}{wv v bv:Value}{s:ByteArray}{l:Names}{fs:List bD}{K:Nat}
theorem CW {lb:Bs} (hr:Ro w0 F (bK 1 bv (ay lb))){A:aC} (h:Sat w0 w (A::F)):∃ a n c,bv = .slice a n c∧n=lb.length:=by
 obtain ⟨a,n,c,rfl,hl,_⟩:=hr w h.drop
 rw [aU,Nat.mul_one]at hl
 exact ⟨a,n,c,rfl,hl.symm⟩
theorem Nr (hM:M.Ok K) (hK:K≤1099511627776) (h:Sat w0 w (aT m M::F)) (s:ByteArray) (lb:Bs) (hr:Ro w0 F (bK 1 bv (ay lb))) :
  Calls Tryz.prog 177 #[ptr m,.string s,bv] w (aI fun v w'=>v=errno (M.append s lb).2∧Sat w0 w' (aT m (M.append s lb).1::F)):=by
 obtain ⟨bs,fb,nb,wv,hl,hR⟩:=aT.open h
 cases ho:M.off
 ·cases hn:dD M.now s with
  |none=>
   obtain ⟨ba,bn,bc,rfl,hbn⟩:=CW hr h
   clear hbn
   have hf:=zC (s:=s) hR ho hn
   have bV:Hid (M.append s lb=(M,9)):=by show _=_;simp [aB.append,ho,hn]
   clear ho hn hr
   go_enter Tryz.func177,Tryz.ntmps177
   go_wp2_with (go_at_call 108;refine hf.mono ?_;rintro e w1 ⟨v,rfl,rfl,rfl⟩)
   go_ret
   exact ⟨errno 9,rfl,by rw [bV.out],by rw [bV.out];exact h⟩
  |some i=>
   have hf:=zF (s:=s) hR ho hn
   have hid:i<M.files.length:=hM.iO.ids (s,i) (kX hn)
   obtain ⟨ba,bn,bc,rfl,hbn⟩:=CW hr h
   have hu:=agE (w:=w.drew) (m:=m) (M:=M) (fb:=fb) (nb:=nb) (wv:=wv) (bs:=bs) hR.drew hl hM.iO.ids (by have:=hM.Va;omega)
   have hut:M.rU=M.used:=by simp [aB.rU,ho]
   rw [hut]at hu
   have hu2:=hM.Va
   have hr2:=hM.room
   have c0:=hR.cellAt 0 _ rfl
   have Hr:=uQ hr;clear hr
   clear hut
   by_cases hfull:(M.room:Int) - M.used<lb.length
   ·have bV:Hid (M.append s lb=(M,11)):=by show _=_;simp [aB.append,ho,hn,hfull]
    clear ho hn
    subst hbn
    have hwr:IntKind.i64.wrap ((M.room:Int) - (M.used:Int))=(M.room:Int) - (M.used:Int):=IntWalk.i64_in _ oQ
    go_enter Tryz.func177,Tryz.ntmps177
    go_wp2_with (go_at_call 108;refine hf.mono ?_;rintro e w1 ⟨v,rfl,rfl,rfl⟩)
    refine dh [8,9] (fun w'=>w'.cell? ⟨m,0,none⟩=some (.int .i64 M.room)) au ?_
    have hG:=c0
    refine fP (i:=0) (v:=?_) rfl au (fun _ _ _ h=>h) (Or.inl ⟨by rfl,?_⟩) ?_;rotate_left;focus ((intro wq;go_simp);first|done|(with_reducible rfl))
    refine fP (i:=1) (v:=?_) rfl au (fun _ _ _ h=>h) (Or.inl ⟨by rfl,?_⟩) ?_;rotate_left;focus ((intro wq;go_simp);first|done|(with_reducible rfl))
    refine fP (i:=2) (v:=?_) rfl au (fun _ _ _ h=>h) (Or.inl ⟨by rfl,?_⟩) ?_;rotate_left;focus ((intro wq;go_simp);first|done|(with_reducible rfl))
    refine fP (i:=3) (v:=?_) rfl au (fun _ _ _ h=>h) (Or.inl ⟨by rfl,?_⟩) ?_;rotate_left;focus ((intro wq;go_simp);first|done|(with_reducible rfl))
    refine fP (i:=4) (v:=?_) rfl au (fun _ _ _ h=>h) (Or.inl ⟨by rfl,?_⟩) ?_;rotate_left;focus ((intro wq;go_simp);first|done|(with_reducible rfl))
    refine qc (i:=5) (v:=?_) rfl au (fun _ _ _ h=>h) (Or.inl ⟨by rfl,?_⟩) aQ ?_;rotate_left;focus ((intro wq hq;go_split_ands;go_simp);first|done|(with_reducible rfl))
    refine fP (i:=6) (v:=?_) rfl au (fun _ _ _ h=>h) (Or.inl ⟨by rfl,?_⟩) ?_;rotate_left;focus ((intro wq;go_simp);first|done|(with_reducible rfl))
    refine ou (i:=7) rfl au (fun K hK=>?_)
    go_simp
    refine hu.mono ?_
    rintro e w1 ⟨v,rfl,rfl,wG⟩
    refine hK _ _ (.inr (.inl (wG.cellAt 0 _ rfl))) ?_
    clear hK K hG
    refine fP (i:=8) (v:=?_) rfl au (fun _ _ _ h=>h) (Or.inl ⟨by rfl,?_⟩) ?_;rotate_left;focus ((intro wq;go_simp);first|done|(with_reducible rfl))
    refine fP (i:=9) (v:=?_) rfl au (fun _ _ _ h=>h) (Or.inl ⟨by rfl,?_⟩) ?_;rotate_left;focus ((intro wq;go_simp);first|done|(with_reducible rfl))
    refine cu au ?_
    clear hwr
    go_wp2
    go_ret
    exact ⟨errno 11,rfl,by rw [bV.out],by rw [bV.out];exact aT.shut hl wG⟩
   have ahP:decide ((M.room:Int) - M.used<lb.length)=false:=by rw [decide_eq_false_iff_not];exact hfull
   cases hstep:M.step.2
   ·have bV:Hid (M.append s lb=(M.step.1,12)):=by show _=_;simp [aB.append,ho,hn,hfull,hstep]
    have Hs:=uQ hstep
    clear ho hn hstep hfull
    subst hbn
    have hwr:IntKind.i64.wrap ((M.room:Int) - (M.used:Int))=(M.room:Int) - (M.used:Int):=IntWalk.i64_in _ oQ
    go_enter Tryz.func177,Tryz.ntmps177
    go_wp2_with (go_at_call 108;refine hf.mono ?_;rintro e w1 ⟨v,rfl,rfl,rfl⟩)
    refine dh [8,9] (fun w'=>w'.cell? ⟨m,0,none⟩=some (.int .i64 M.room)) au ?_
    have hG:=c0
    refine fP (i:=0) (v:=?_) rfl au (fun _ _ _ h=>h) (Or.inl ⟨by rfl,?_⟩) ?_;rotate_left;focus ((intro wq;go_simp);first|done|(with_reducible rfl))
    refine fP (i:=1) (v:=?_) rfl au (fun _ _ _ h=>h) (Or.inl ⟨by rfl,?_⟩) ?_;rotate_left;focus ((intro wq;go_simp);first|done|(with_reducible rfl))
    refine fP (i:=2) (v:=?_) rfl au (fun _ _ _ h=>h) (Or.inl ⟨by rfl,?_⟩) ?_;rotate_left;focus ((intro wq;go_simp);first|done|(with_reducible rfl))
    refine fP (i:=3) (v:=?_) rfl au (fun _ _ _ h=>h) (Or.inl ⟨by rfl,?_⟩) ?_;rotate_left;focus ((intro wq;go_simp);first|done|(with_reducible rfl))
    refine fP (i:=4) (v:=?_) rfl au (fun _ _ _ h=>h) (Or.inl ⟨by rfl,?_⟩) ?_;rotate_left;focus ((intro wq;go_simp);first|done|(with_reducible rfl))
    refine qc (i:=5) (v:=?_) rfl au (fun _ _ _ h=>h) (Or.inl ⟨by rfl,?_⟩) aQ ?_;rotate_left;focus ((intro wq hq;go_split_ands;go_simp);first|done|(with_reducible rfl))
    refine fP (i:=6) (v:=?_) rfl au (fun _ _ _ h=>h) (Or.inl ⟨by rfl,?_⟩) ?_;rotate_left;focus ((intro wq;go_simp);first|done|(with_reducible rfl))
    refine ou (i:=7) rfl au (fun K hK=>?_)
    go_simp
    refine hu.mono ?_
    rintro e w1 ⟨v,rfl,rfl,wG⟩
    refine hK _ _ (.inr (.inl (wG.cellAt 0 _ rfl))) ?_
    clear hK K hG
    refine fP (i:=8) (v:=?_) rfl au (fun _ _ _ h=>h) (Or.inl ⟨by rfl,?_⟩) ?_;rotate_left;focus ((intro wq;go_simp);first|done|(with_reducible rfl))
    refine fP (i:=9) (v:=?_) rfl au (fun _ _ _ h=>h) (Or.inl ⟨by rfl,?_⟩) ?_;rotate_left;focus ((intro wq;go_simp);first|done|(with_reducible rfl))
    refine cu au ?_
    clear hwr
    have hst:=Ac wG hM.left
    rw [Hs.out]at hst
    go_wp2_with (go_at_call 168;refine hst.mono ?_;rintro e w2 ⟨v,rfl,rfl,hS1⟩)
    go_ret
    refine ⟨errno 12,rfl,by rw [bV.out],?_⟩
    rw [bV.out]
    exact aT.shut (bs:=bs) (fb:=fb) (nb:=nb) (wv:=wv) (by rw [M.jW.2.2.2.1];exact hl) (uH hS1)
   ·have bV:Hid (M.append s lb=(M.step.1.ig i ((M.file i).do ⟨false,0,lb⟩),0)):=by show _=_;simp [aB.append,ho,hn,hfull,hstep]
    have Hs:=uQ hstep
    have hfe:M.step.1.file i=M.file i:=by unfold aB.file;rw [M.jW.2.2.2.1]
    have QC:=hM.file i
    have hbig:lb.length≤16777216:=by omega
    clear ho hn hstep hfull
    subst hbn
    generalize hq:bs.getD i 0=q at hf
    have Hq:=uQ hq;clear hq
    have Gj:=uQ hfe;clear hfe
    have bY:=uQ QC;clear QC
    have hwr:IntKind.i64.wrap ((M.room:Int) - (M.used:Int))=(M.room:Int) - (M.used:Int):=IntWalk.i64_in _ oQ
    go_enter Tryz.func177,Tryz.ntmps177
    go_wp2_with (go_at_call 108;refine hf.mono ?_;rintro e w1 ⟨v,rfl,rfl,rfl⟩)
    refine dh [8,9] (fun w'=>w'.cell? ⟨m,0,none⟩=some (.int .i64 M.room)) au ?_
    have hG:=c0
    refine fP (i:=0) (v:=?_) rfl au (fun _ _ _ h=>h) (Or.inl ⟨by rfl,?_⟩) ?_;rotate_left;focus ((intro wq;go_simp);first|done|(with_reducible rfl))
    refine fP (i:=1) (v:=?_) rfl au (fun _ _ _ h=>h) (Or.inl ⟨by rfl,?_⟩) ?_;rotate_left;focus ((intro wq;go_simp);first|done|(with_reducible rfl))
    refine fP (i:=2) (v:=?_) rfl au (fun _ _ _ h=>h) (Or.inl ⟨by rfl,?_⟩) ?_;rotate_left;focus ((intro wq;go_simp);first|done|(with_reducible rfl))
    refine fP (i:=3) (v:=?_) rfl au (fun _ _ _ h=>h) (Or.inl ⟨by rfl,?_⟩) ?_;rotate_left;focus ((intro wq;go_simp);first|done|(with_reducible rfl))
    refine fP (i:=4) (v:=?_) rfl au (fun _ _ _ h=>h) (Or.inl ⟨by rfl,?_⟩) ?_;rotate_left;focus ((intro wq;go_simp);first|done|(with_reducible rfl))
    refine qc (i:=5) (v:=?_) rfl au (fun _ _ _ h=>h) (Or.inl ⟨by rfl,?_⟩) aQ ?_;rotate_left;focus ((intro wq hq;go_split_ands;go_simp);first|done|(with_reducible rfl))
    refine fP (i:=6) (v:=?_) rfl au (fun _ _ _ h=>h) (Or.inl ⟨by rfl,?_⟩) ?_;rotate_left;focus ((intro wq;go_simp);first|done|(with_reducible rfl))
    refine ou (i:=7) rfl au (fun K hK=>?_)
    go_simp
    refine hu.mono ?_
    rintro e w1 ⟨v,rfl,rfl,wG⟩
    refine hK _ _ (.inr (.inl (wG.cellAt 0 _ rfl))) ?_
    clear hK K hG
    refine fP (i:=8) (v:=?_) rfl au (fun _ _ _ h=>h) (Or.inl ⟨by rfl,?_⟩) ?_;rotate_left;focus ((intro wq;go_simp);first|done|(with_reducible rfl))
    refine fP (i:=9) (v:=?_) rfl au (fun _ _ _ h=>h) (Or.inl ⟨by rfl,?_⟩) ?_;rotate_left;focus ((intro wq;go_simp);first|done|(with_reducible rfl))
    refine cu au ?_
    clear hwr
    have hst:=Ac wG hM.left
    rw [Hs.out]at hst
    go_wp2_with (go_at_call 168;fail)
    refine hst.mono ?_
    rintro e w2 ⟨v,rfl,rfl,hS1⟩
    have hl':bs.length=M.step.1.files.length:=by rw [M.jW.2.2.2.1];exact hl
    have I5:i<M.step.1.files.length:=by rw [M.jW.2.2.2.1];exact hid
    obtain ⟨G,h1,h2⟩:=Tm hl' I5 (uH hS1)
    rw [Gj.out,Hq.out]at h1
    rw [Hq.out]at h2
    have hrd:=Hr.out w2 (h1.sel 6 [] rfl rfl)
    have hcl:=qA h1 hrd oQ
    go_wp2_with (go_at_call 26;fail)
    refine hcl.mono ?_
    rintro e w3 ⟨v2,rfl,hS2,a2,n2,k2,rfl⟩
    obtain ⟨fv,nv,wv',ws,hws,h3⟩:=jT.open hS2.aP
    have hdo:=YU (bv:= .slice a2 n2 k2) ⟨false,0,lb⟩ (h3.sel 6 [0,1,2,3,4,5] rfl rfl) hws ⟨(fun h=>by cases h),fun _=>by have:=bY.out.sH;simp only;omega⟩ (Nat.le_trans bY.out.budget hK)
    clear h3 hws hst hcl hrd h1 hu
    go_wp2_with (go_at_call 205;go_must (refine hdo.mono ?_);rintro e w4 ⟨v4,rfl,hS4⟩)
    go_ret
    refine ⟨errno 0,rfl,by rw [bV.out],?_⟩
    rw [bV.out]
    exact h2 _ _ hS4
 ·obtain ⟨ba,bn,bc,rfl,hbn⟩:=CW hr h
  clear hbn
  have hf:=zD (s:=s) hR ho
  have bV:Hid (M.append s lb=(M,12)):=by show _=_;simp [aB.append,ho]
  clear ho hr
  go_enter Tryz.func177,Tryz.ntmps177
  go_wp2_with (go_at_call 108;refine hf.mono ?_;rintro e w1 ⟨v,rfl,rfl,rfl⟩)
  go_ret
  exact ⟨errno 12,rfl,by rw [bV.out],by rw [bV.out];exact h⟩
theorem afR (hM:M.Ok K) (h:Sat w0 w (aT m M::F)) :
  Calls Tryz.prog 129 #[ptr m] w (aI fun v w'=>v=errno M.jG.2∧Sat w0 w' (aT m M.jG.1::F)):=by
 obtain ⟨bs,fb,nb,wv,hl,hR⟩:=aT.open h
 have hd:=xQ hR
 cases ho:M.off
 ·rw [ho]at hd
  have hst:=Ac hR hM.left
  cases hstep:M.step.2
  ·rw [hstep]at hst
   have bV:Hid (M.jG=(M.step.1,12)):=by show _=_;simp [aB.jG,ho,hstep]
   clear ho hstep
   go_enter Tryz.func129,Tryz.ntmps129
   go_wp2_with (first|(go_at_call 106;refine hd.mono ?_;rintro e w1 ⟨v,rfl,rfl,rfl⟩)|(go_at_call 168;refine hst.mono ?_;rintro e w1 ⟨v,rfl,rfl,hS1⟩))
   go_ret
   refine ⟨errno 12,rfl,by rw [bV.out],?_⟩
   rw [bV.out]
   exact aT.shut (bs:=bs) (fb:=fb) (nb:=nb) (wv:=wv) (by rw [M.jW.2.2.2.1];exact hl) (uH hS1)
  ·rw [hstep]at hst
   have bV:Hid (M.jG=({ M.step.1 with fast:=M.now,waits:=[] },0)):=by show _=_;simp [aB.jG,ho,hstep]
   clear ho hstep
   go_enter Tryz.func129,Tryz.ntmps129
   go_wp2_with (first|(go_at_call 106;refine hd.mono ?_;rintro e w1 ⟨v,rfl,rfl,rfl⟩)|(go_at_call 168;fail))
   refine hst.mono ?_
   rintro e w1 ⟨v,rfl,rfl,hS1⟩
   have c2:=hS1.cellAt 2 _ rfl
   have hcp:=YC hS1.aP
   go_wp2_with (go_at_call 170;go_must (refine hcp.mono ?_);rintro e w2 ⟨v,rfl,b',rfl,hS2⟩;have d1:=hS2.dM.cellAt 1 _ rfl;have d3:=hS2.dM.cellAt 3 _ rfl;have g1:=hS2.dM.nY 1;have g3:=hS2.dM.nY 3)
   go_ret
   refine ⟨errno 0,rfl,by rw [bV.out],?_⟩
   rw [bV.out]
   have h5:=(hS2.dM.set 1 (.map (some b'))).set 3 (.slice none 0 0)
   obtain ⟨e1,e2,e3,e4,e5⟩:=M.jW
   refine aT.shut (bs:=bs) (fb:=b') (nb:=nb) (wv:= .slice none 0 0) (by simp only [e4];exact hl) ?_
   have h6:Sat w0 _ (aF 280 3 (.slice none 0 0) []::_::_::_::_::_::aF _ _ _ _::F):=Sat.fM.2 h5
   unfold tN
   simp only [e3,e4]
   exact h6.sel 7 [1,3,4,2,0] rfl rfl
 ·rw [ho]at hd
  have bV:Hid (M.jG=(M,12)):=by show _=_;simp [aB.jG,ho]
  clear ho
  go_enter Tryz.func129,Tryz.ntmps129
  go_wp2_with (go_at_call 106;refine hd.mono ?_;rintro e w1 ⟨v,rfl,rfl,rfl⟩)
  go_ret
  exact ⟨errno 12,rfl,by rw [bV.out],by rw [bV.out];exact h⟩
end
section
variable {w0 w:World}{F:List aC}{m fb nb b r:Nat}{M:aB}{bs:List Nat}{wv v bv lv:Value}{s:ByteArray}{fs:List bD}{K:Nat}{f:bD}
def ints (l:List Int):List Value:=l.map (.int .i64)
def pR (x:Int):Prop:= -9223372036854775808≤x∧x≤9223372036854775807
def kK (v:Value):Prop:=∃ a n c,v = .slice a n c∧n≤c∧c≤9223372036854775807
theorem SC (l:List Int) (j:Nat):num (l.drop j) 0=num l j:=by
 unfold num
 rw [List.getD_eq_getElem?_getD,List.getElem?_drop,List.getD_eq_getElem?_getD];rfl
end
section
variable {w0 w:World}{F:List aC}{m fb nb b r:Nat}{M:aB}{bs:List Nat}{wv v bv lv av:Value}{s:ByteArray}{fs:List bD}{K:Nat}{f:bD}
theorem zQ {a:Option Addr}{n c:Nat}{xs:List Value} (h:bK 1 (.slice a n c) xs w){i:Nat}{x:Value} (hi:xs[i]?=some x) :
  ∃ bk off,a=some ⟨bk,off,none⟩∧w.cell? ⟨bk,off+i,none⟩=some x:=by
 obtain ⟨a',n',c',he,hl,hx⟩:=h
 cases he
 obtain ⟨b,rfl,hc⟩:=hx i x hi
 have hlt:i<xs.length:=(List.getElem?_eq_some_iff.1 hi).1
 obtain ⟨y,hy⟩:∃ y,xs[0]?=some y:=⟨xs[0]'oQ,List.getElem?_eq_getElem _⟩
 obtain ⟨b',hb',hc0⟩:=hx 0 y hy
 cases hb'
 obtain ⟨bk,off,spot⟩:=b
 have hs:spot=none:=by simpa [Addr.add] using World.cell?_spot hc0
 subst hs
 refine ⟨bk,off,rfl,?_⟩
 unfold Addr.add at hc
 split at hc
 ·rename_i h0;subst h0;exact hc
 ·exact hc
theorem cut_c (a:Option Addr) (n c k:Nat) (h1:n≤c) (h2:c≤9223372036854775807) (w:World) :
  Calls Tryz.prog 6 #[.slice a n c,.int .i64 k] w (aI fun v w'=>v = .slice a (min n k) c∧w=w'):=by
 by_cases hk:k<n
 ·have hk1:(k:Int)<(n:Int):=by omega
  have hk2:(k:Int)≤(c:Int):=by omega
  have e:=uQ (show min n k=k by omega)
  go_enter Tryz.func6,Tryz.ntmps6
  go_wp2
  go_ret
  exact ⟨.slice a k c,rfl,by rw [e.out],rfl⟩
 ·have hk1:¬ (k:Int)<(n:Int):=by omega
  have e:=uQ (show min n k=n by omega)
  go_enter Tryz.func6,Tryz.ntmps6
  go_wp2
  go_ret
  exact ⟨.slice a n c,rfl,by rw [e.out],rfl⟩
theorem acu (a:Option Addr) (n c k:Nat) (h1:n≤c) (h2:c≤9223372036854775807) (w:World) :
  Calls Tryz.prog 36 #[.slice a n c,.int .i64 k] w (aI fun v w'=>v = .slice a (min n k) c∧w=w'):=by
 by_cases hk:k<n
 ·have hk1:(k:Int)<(n:Int):=by omega
  have hk2:(k:Int)≤(c:Int):=by omega
  have e:=uQ (show min n k=k by omega)
  go_enter Tryz.func36,Tryz.ntmps36
  go_wp2
  go_ret
  exact ⟨.slice a k c,rfl,by rw [e.out],rfl⟩
 ·have hk1:¬ (k:Int)<(n:Int):=by omega
  have e:=uQ (show min n k=n by omega)
  go_enter Tryz.func36,Tryz.ntmps36
  go_wp2
  go_ret
  exact ⟨.slice a n c,rfl,by rw [e.out],rfl⟩
end
section
variable {w0 w:World}{F:List aC}{m fb nb b r:Nat}{M:aB}{bs:List Nat}{wv v bv:Value}{s:ByteArray}{fs:List bD}{K:Nat}
def within (x lo hi:Int):Int:=if x<lo then lo else if hi<x then hi else x
theorem agJ (x lo hi:Int) (w:World):Calls Tryz.prog 19 #[.int .i64 x,.int .i64 lo,.int .i64 hi] w (aI fun v w'=>v = .int .i64 (within x lo hi)∧w=w'):=by
 by_cases h1:x<lo
 ·have e:=uQ (show within x lo hi=lo by simp [within,h1])
  go_enter Tryz.func19,Tryz.ntmps19
  go_wp2
  go_ret
  exact ⟨.int .i64 lo,rfl,by rw [e.out],rfl⟩
 ·by_cases h2:hi<x
  ·have e:=uQ (show within x lo hi=hi by simp [within,h1,h2])
   go_enter Tryz.func19,Tryz.ntmps19
   go_wp2
   go_ret
   exact ⟨.int .i64 hi,rfl,by rw [e.out],rfl⟩
  ·have e:=uQ (show within x lo hi=x by simp [within,h1,h2])
   go_enter Tryz.func19,Tryz.ntmps19
   go_wp2
   go_ret
   exact ⟨.int .i64 x,rfl,by rw [e.out],rfl⟩
theorem Oo (h:Sat w0 w F) (l:Bs) (hr:bK 1 bv (ay l) w) (hl:l.length≤1099511627776) :
  Calls Tryz.prog 35 #[bv] w (aI fun v w'=>Sat w0 w' (aK v l::F)∧∃ a n c,v = .slice a n c):=by
 obtain ⟨i,hi,hz0,hz1,hz2⟩:=uF
 obtain ⟨a,n,c,rfl,hn,_⟩:=id hr
 rw [aU,Nat.mul_one]at hn
 have h0:Sat w0 w (aF 5 1 (.slice none 0 0) []::F):=Sat.fM.2 h
 have h63:([]:List Value).length+(ay l).length≤maxLen:=by rw [aU];unfold maxLen;simp;omega
 have hby:(([]:List Value).length+(ay l).length) * i.bytes≤140737488355328:=by rw [aU,hz2];simp;omega
 have Hn:=uQ hn;clear hn
 go_enter Tryz.func35,Tryz.ntmps35
 go_wp2_with (at_builtin;go_must (refine yN (w0:=w0) ah _ _ _ ah _ i _ Tryz.underlying27 hi hz0 hz1 ah oQ ah ah (jU _) h0 hr h63 hby ?_);intro v2 w2 hS2 hne)
 obtain ⟨a2,n2,c2,rfl,_⟩:=id hS2.rd
 go_wp2
 go_ret
 exact ⟨_,rfl,hS2,_,_,_,rfl⟩
end
section
variable {w0 w:World}{F:List aC}{v bv:Value}
def Half (w:World):Prop:=∀ i,i<16→w.cell? ⟨2,i,none⟩=some (.int .u32 (ak.half.getD i 0:Nat))
theorem JY (s:Nat) (hs:s<4294967296):bits .xor .u32 IntKind.u32.max (s:Int)=((4294967295 - s:Nat):Int):=by
 have h1:IntKind.u32.max=((4294967295:Nat):Int):=by decide
 rw [h1,u32_xor_nat _ _ oQ hs]
 congr 1
 have h2:(4294967295 ^^^ s)=(BitVec.allOnes 32 ^^^ BitVec.ofNat 32 s).toNat:=by
  rw [BitVec.toNat_xor,BitVec.toNat_allOnes,BitVec.toNat_ofNat,Nat.mod_eq_of_lt hs]
 rw [h2,BitVec.allOnes_xor,BitVec.toNat_not,BitVec.toNat_ofNat,Nat.mod_eq_of_lt hs]
theorem Nh (y:Nat) (hy:y<4294967296):bits .and .u32 (y:Int) 15=((y%16:Nat):Int):=by
 have:=u32_and_nat y 15 hy oQ
 rw [nat_mask4]at this
 exact this
theorem Vz (y h:Nat) (hy:y<4294967296) (hh:h<4294967296):bits .xor .u32 ((y:Int) / 16) (h:Int)=((y / 16 ^^^ h:Nat):Int):=by
 have:=u32_xor_nat (y / 16) h oQ hh
 rw [← this]
 rfl
theorem YE (s:Nat) (hs:s<4294967296) (l:Bs) (hH:Ro w0 F Half) (hr:Ro w0 F (bK 1 bv (ay l))) (h:Sat w0 w F) (hl:l.length≤1099511627776) :
  Calls Tryz.prog 181 #[.int .u32 s,bv] w (aI fun v w'=>v = .int .u32 (ak.Bd s l:Nat)∧w=w'):=by
 obtain ⟨a,n,c,rfl,hn,_⟩:=id (hr w h)
 rw [aU,Nat.mul_one]at hn
 subst hn
 have hnot:=JY s hs
 obtain ⟨t0,ht0⟩:∃ t0,t0=4294967295 - s:=⟨_,rfl⟩
 rw [← ht0]at hnot
 have ht:t0<4294967296:=by omega
 have Hr:=uQ hr;have hHw:=uQ (hH w h);have Hl:=uQ hl;have Ht:=uQ ht;have Xk:=uQ ht0
 clear hr hH hl hs ht ht0
 go_enter Tryz.func181,Tryz.ntmps181
 go_wp2_with fail
 clear hnot
 go_loopg [5,12] l.length (fun g xv iq wr=>∃ (i:Nat),g=l.length - i∧i≤l.length∧iq = .int .i64 i∧xv = .int .u32 ((l.take i).foldl ak.sD t0:Nat)∧wr=w)
 case atStart=>exact ⟨0,rfl,Nat.zero_le _,rfl,rfl,rfl⟩
 case round=>
  obtain ⟨i,rfl,hi,rfl,rfl,rfl⟩:=hrel
  have BX:(l.take i).foldl ak.sD t0<4294967296:=ak.PI _ _ Ht.out
  by_cases hi':i<l.length
  ·have hb:(ay l)[i]?=some (.int .u8 (l[i]'hi').toNat):=by unfold ay;simp [hi']
   obtain ⟨bk,off,rfl,c1⟩:=zQ (Hr.out _ h) hb
   have hnext:(l.take (i+1)).foldl ak.sD t0=ak.zG (ak.zG ((l.take i).foldl ak.sD t0 ^^^ (l[i]'hi').toNat)):=by
    rw [List.take_succ_eq_append_getElem hi',List.foldl_append];rfl
   have hic:(i:Int)<(l.length:Int):=by omega
   have hwi:IntKind.i64.wrap ((i:Int)+1)=(i:Int)+1:=IntWalk.i64_in _ (by have h1:=Hl.out;omega)
   have hcb:=(l[i]'hi').toNat_lt
   have nS:=uQ hnext
   clear hb hnext
   generalize (l[i]'hi').toNat=cb at *
   generalize (l.take i).foldl ak.sD t0=x at *
   have e1:=u32_xor_nat x cb BX oQ
   have hy1:x ^^^ cb<4294967296:=ak.nD BX oQ
   unfold ak.zG at nS
   generalize x ^^^ cb=y1 at *
   have e2:=Nh y1 hy1
   have hz1:y1%16<16:=Nat.mod_lt _ oQ
   have g1:=hHw.out (y1%16) hz1
   have e3:=Vz y1 _ hy1 (ak.Ew (y1%16))
   have hy2:y1 / 16 ^^^ ak.half.getD (y1%16) 0<4294967296:=ak.nD oQ (ak.Ew _)
   generalize ak.half.getD (y1%16) 0=h1 at *
   generalize y1%16=z1 at *
   generalize y1 / 16 ^^^ h1=y2 at *
   have e4:=Nh y2 hy2
   have hz2:y2%16<16:=Nat.mod_lt _ oQ
   have g2:=hHw.out (y2%16) hz2
   have e5:=Vz y2 _ hy2 (ak.Ew (y2%16))
   generalize ak.half.getD (y2%16) 0=h2 at *
   generalize y2%16=z2 at *
   generalize y2 / 16 ^^^ h2=y3 at *
   have hcm:(cb:Int)%4294967296=(cb:Int):=by omega
   have ahV:(z1:Int)<16:=by omega
   have ahW:(z2:Int)<16:=by omega
   clear BX hy1 hy2 hcb
   go_wp2
   go_roundg (l.length - (i+1))
   case measure=>omega
   case rel=>exact ⟨i+1,rfl,Nat.succ_le_of_lt hi',by first|rfl|go_num,by rw [nS.out],rfl⟩
  ·obtain rfl:i=l.length:=by omega
   have hic:¬ (l.length:Int)<(l.length:Int):=by omega
   rw [List.take_length]at *
   have hn2:=JY _ BX
   have hfin:ak.Bd s l=4294967295 - l.foldl ak.sD t0:=by unfold ak.Bd;rw [Xk.out]
   rw [← hfin]at hn2
   generalize l.foldl ak.sD t0=x at *
   clear hi hi' BX hfin
   go_wp2
   go_ret
   exact ⟨_,rfl,rfl,rfl⟩
theorem Ii (l:Bs) (hH:Ro w0 F Half) (hr:Ro w0 F (bK 1 bv (ay l))) (h:Sat w0 w F) (hl:l.length≤1099511627776) :
  Calls Tryz.prog 146 #[bv] w (aI fun v w'=>v = .int .u32 (ak.crc l:Nat)∧w=w'):=by
 have ha:=YE 0 oQ l hH hr h hl
 have hcast:((0:Nat):Int)=0:=rfl
 rw [hcast]at ha
 clear hcast
 obtain ⟨a,n,c,rfl,hn,_⟩:=id (hr w h)
 go_enter Tryz.func146,Tryz.ntmps146
 go_wp2_with fail
 refine ha.mono ?_
 rintro e w1 ⟨v,rfl,rfl,rfl⟩
 clear ha
 go_wp2
 go_ret
 exact ⟨_,rfl,rfl,rfl⟩
end
section
variable {w0 w:World}{F:List aC}{m fb nb b r:Nat}{M:aB}{bs:List Nat}{wv v bv:Value}{s:ByteArray}{l:Names}{fs:List bD}{K:Nat}
theorem abu (hM:M.Ok K) (hK:K≤1099511627776) (hl:bs.length=M.files.length) (x:iW) (h:Sat w0 w (tN m M bs fb nb wv++F)) :
  Calls Tryz.prog 169 #[ptr m,.agg #[.string x.fr,.string x.to,og bs x]] w (aI fun _ w'=>Sat w0 w' (aT m (M.link x)::F)):=by
 refine (Rx x (h.sel 5 [0,1,4,2,3] rfl rfl) (Nat.le_trans hM.budget hK)).mono ?_
 rintro e w1 ⟨v,rfl,wv',hS⟩
 refine ⟨v,rfl,aT.shut (bs:=bs) (fb:=fb) (nb:=nb) (wv:=wv') (by simpa [aB.link] using hl) ?_⟩
 exact hS.sel 5 [0,1,3,4,2] rfl rfl
theorem TG (hM:M.Ok K) (hK:K≤1099511627776) (h:Sat w0 w (aT m M::F)) (s:ByteArray) :
  Calls Tryz.prog 127 #[ptr m,.string s] w (aI fun v w'=>v=errno (M.remove s).2∧Sat w0 w' (aT m (M.remove s).1::F)):=by
 obtain ⟨bs,fb,nb,wv,hl,hR⟩:=aT.open h
 cases ho:M.off
 ·cases hn:dD M.now s with
  |none=>
   have hf:=zC (s:=s) hR ho hn
   have bV:Hid (M.remove s=(M,9)):=by show _=_;simp [aB.remove,ho,hn]
   clear ho hn
   go_enter Tryz.func127,Tryz.ntmps127
   go_wp2_with (first|(go_at_call 108;refine hf.mono ?_;rintro e w1 ⟨v,rfl,rfl,rfl⟩))
   go_ret
   exact ⟨errno 9,rfl,by rw [bV.out],by rw [bV.out];exact h⟩
  |some i=>
   have hf:=zF (s:=s) hR ho hn
   have hst:=Ac hR hM.left
   cases hstep:M.step.2
   ·rw [hstep]at hst
    have bV:Hid (M.remove s=(M.step.1,12)):=by show _=_;simp [aB.remove,ho,hn,hstep]
    clear ho hn hstep
    go_enter Tryz.func127,Tryz.ntmps127
    go_wp2_with (first|(go_at_call 108;refine hf.mono ?_;rintro e w1 ⟨v,rfl,rfl,rfl⟩)|(go_at_call 168;refine hst.mono ?_;rintro e w1 ⟨v,rfl,rfl,hS1⟩))
    go_ret
    refine ⟨errno 12,rfl,by rw [bV.out],?_⟩
    rw [bV.out]
    exact aT.shut (bs:=bs) (fb:=fb) (nb:=nb) (wv:=wv) (by rw [M.jW.2.2.2.1];exact hl) (uH hS1)
   ·rw [hstep]at hst
    have bV:Hid (M.remove s=(M.step.1.link ⟨s,ByteArray.empty,0⟩,0)):=by show _=_;simp [aB.remove,ho,hn,hstep]
    have hl':bs.length=M.step.1.files.length:=by rw [M.jW.2.2.2.1];exact hl
    have hlp:og bs ⟨s,ByteArray.empty,0⟩ = .pointer none:=by unfold og;rw [if_pos rfl]
    have Ap:=uQ hl';have WJ:=uQ hlp
    clear ho hn hstep hl' hlp
    generalize hq:bs.getD i 0=q at hf
    have Hq:=uQ hq;clear hq
    go_enter Tryz.func127,Tryz.ntmps127
    go_wp2_with (first|(go_at_call 108;refine hf.mono ?_;rintro e w1 ⟨v,rfl,rfl,rfl⟩)|(go_at_call 168;fail))
    refine hst.mono ?_
    rintro e w1 ⟨v,rfl,rfl,hS1⟩
    have hlk:=abu hM.step hK Ap.out ⟨s,ByteArray.empty,0⟩ (uH hS1)
    rw [WJ.out]at hlk
    go_wp2_with (go_at_call 169;go_must (refine hlk.mono ?_);rintro e w2 ⟨v2,rfl,hS2⟩)
    go_ret
    refine ⟨errno 0,rfl,by rw [bV.out],?_⟩
    rw [bV.out]
    exact hS2
 ·have hf:=zD (s:=s) hR ho
  have bV:Hid (M.remove s=(M,12)):=by show _=_;simp [aB.remove,ho]
  clear ho
  go_enter Tryz.func127,Tryz.ntmps127
  go_wp2_with (first|(go_at_call 108;refine hf.mono ?_;rintro e w1 ⟨v,rfl,rfl,rfl⟩))
  go_ret
  exact ⟨errno 12,rfl,by rw [bV.out],by rw [bV.out];exact h⟩
end
section
variable {w0 w W:World}{F:List aC}{m fb nb b r:Nat}{M P:aB}{bs:List Nat}{wv v bv dv av cv nv ov lv:Value}{s:ByteArray}{fs:List bD}{K:Nat}{f:bD}
theorem Yj {l:Bs} (h:Sat w0 w (aK v l::F)):kK v:=by
 rcases Sat.jR h with ⟨rfl,_⟩|⟨b,n',cap',cs,rfl,_,hn,_,hcm,_,_⟩
 ·exact ⟨_,0,0,rfl,Nat.le_refl _,by omega⟩
 ·exact ⟨_,_,_,rfl,hn,hcm⟩
def shortS (s:ByteArray) (n:Nat):ByteArray:=if n<s.size then s.extract 0 n else s
theorem nV {a:Option Addr}{n c:Nat}{l:Bs} (h:Sat w0 w (aK (.slice a n c) l::F)){i:Nat} (hi:i<l.length) (x:UInt8) :
  ∃ g,a=some ⟨g,0,none⟩∧w.cell? ⟨g,i,none⟩=some (.int .u8 (l[i]'hi).toNat)∧w.frozen? ⟨g,i,none⟩=false∧Sat w0 (w.setCell ⟨g,i,none⟩ (.int .u8 x.toNat)) (aK (.slice a n c) (l.set i x)::F):=by
 rcases Sat.jR h with ⟨_,hx,_⟩|⟨g,n',cap',cs,he,h1,h2,h3,h4,h5,h6⟩
 ·have:(ay l).length=0:=by rw [hx];rfl
  rw [aU]at this;omega
 ·cases he
  have hg:(ay l)[i]?=some (.int .u8 (l[i]'hi).toNat):=by unfold ay;simp [hi]
  refine ⟨g,rfl,h6.cellAt i _ (pY h5 hg),h6.nY i,?_⟩
  have h7:=h6.set i (.int .u8 x.toNat)
  refine Sat.jV h7 ?_ h2 (by simpa using h3) h4 ?_
  ·rw [aU,List.length_set,← aU l];exact h1
  ·rw [Array.toList_setIfInBounds,List.take_set,h5]
   unfold ay
   rw [List.map_set]
theorem iY {l:Bs} (h:Sat w0 w (aK v l::F)):∃ a n c,v = .slice a n c∧n≤c∧c≤9223372036854775807∧n=l.length:=by
 rcases Sat.jR h with ⟨rfl,hx,_⟩|⟨b,n',cap',cs,rfl,hl,hn,hc,hcm,_,_⟩
 ·refine ⟨_,0,0,rfl,Nat.le_refl _,by omega,?_⟩
  have:(ay l).length=0:=by rw [hx];rfl
  rw [aU]at this;exact this.symm
 ·refine ⟨_,_,_,rfl,hn,hcm,?_⟩
  rw [aU,Nat.mul_one]at hl;exact hl.symm
theorem afL {l:List ByteArray}{i:Nat}{x:ByteArray} (h:l[i]?=some x):(strs l)[i]?=some (.string x):=by
 unfold strs
 rw [List.getElem?_map,h];rfl
theorem afN (l:List ByteArray):(strs l).length=l.length:=by unfold strs;simp
theorem Ro.more {p:World→Prop}{L:List aC} (h:Ro w0 F p):Ro w0 (L++F) p:=by
 induction L with
 |nil=>exact h
 |cons A L ih=>exact ih.cons
end
section
variable {w0 w:World}{F:List aC}{v bv:Value}
theorem CO (x:Nat) (hx:x<18446744073709551616) (h:Sat w0 w F) :
  Calls Tryz.prog 133 #[.int .u64 x,.int .i64 4] w (aI fun v w'=>Sat w0 w' (aK v (ak.le x 4)::F)∧∃ a,v = .slice a 4 4):=by
 have Hx:=uQ hx
 clear hx
 have hmk:∀ w,(Instr.makeSlice 27 (.int .i64 4) (.int .i64 4)).run Tryz.prog w = .ok (.slice (some ⟨w.heap.size,0,none⟩) 4 4) (w.alloc (.cells #[.int .u8 0,.int .u8 0,.int .u8 0,.int .u8 0] 5)):=fun w=>by kernel_rfl
 go_enter Tryz.func133,Tryz.ntmps133
 go_wp2_with fail
 have hA:=h.alloc (.cells #[.int .u8 0,.int .u8 0,.int .u8 0,.int .u8 0] 5)
 have hB:Sat w0 (w.alloc (.cells #[.int .u8 0,.int .u8 0,.int .u8 0,.int .u8 0] 5)) (aK (.slice (some ⟨w.heap.size,0,none⟩) 4 4) [0,0,0,0]::F):=Sat.jV hA rfl (Nat.le_refl _) (Nat.le_refl _) (by unfold maxLen;omega) rfl
 obtain ⟨b0,b1,b2,b3,hb0,hb1,hb2,hb3,hle⟩:∃ b0 b1 b2 b3:UInt8,(x:Int)%256=b0.toNat∧(x:Int) / 256%256=b1.toNat∧(x:Int) / 65536%256=b2.toNat∧(x:Int) / 16777216%256=b3.toNat∧ak.le x 4=[b0,b1,b2,b3]:=by
  refine ⟨_,_,_,_,?_,?_,?_,?_,rfl⟩
  all_goals (rw [UInt8.toNat_ofNat'];omega)
 have lD:=uQ hle
 clear hle hmk hA
 generalize w.heap.size=q at *
 go_loopg [17] 4 (fun g iq wr=>∃ (i:Nat) (l':Bs),g=4 - i∧i≤4∧iq = .int .i64 i∧l'=(match i with|0=>[0,0,0,0]|1=>[b0,0,0,0]|2=>[b0,b1,0,0]|3=>[b0,b1,b2,0]|_=>[b0,b1,b2,b3])∧Sat w0 wr (aK (.slice (some ⟨q,0,none⟩) 4 4) l'::F))
 case atStart=>exact ⟨0,_,rfl,by omega,rfl,rfl,hB⟩
 case round=>
  obtain ⟨i,l',rfl,hi,rfl,hl',hS⟩:=hrel
  clear hB
  obtain rfl|rfl|rfl|rfl|rfl:i=0∨i=1∨i=2∨i=3∨i=4:=by omega
  ·obtain rfl:l'=[0,0,0,0]:=hl'
   obtain ⟨g,he,e0,e1,hS5⟩:=nV (i:=0) hS (by simp) b0
   cases he
   go_wp2_with fail
   go_roundg 3
   case measure=>omega
   case rel=>exact ⟨1,[b0,0,0,0],rfl,by omega,rfl,rfl,hS5⟩
  ·obtain rfl:l'=[b0,0,0,0]:=hl'
   obtain ⟨g,he,e0,e1,hS5⟩:=nV (i:=1) hS (by simp) b1
   cases he
   go_wp2_with fail
   go_roundg 2
   case measure=>omega
   case rel=>exact ⟨2,[b0,b1,0,0],rfl,by omega,rfl,rfl,hS5⟩
  ·obtain rfl:l'=[b0,b1,0,0]:=hl'
   obtain ⟨g,he,e0,e1,hS5⟩:=nV (i:=2) hS (by simp) b2
   cases he
   go_wp2_with fail
   go_roundg 1
   case measure=>omega
   case rel=>exact ⟨3,[b0,b1,b2,0],rfl,by omega,rfl,rfl,hS5⟩
  ·obtain rfl:l'=[b0,b1,b2,0]:=hl'
   obtain ⟨g,he,e0,e1,hS5⟩:=nV (i:=3) hS (by simp) b3
   cases he
   go_wp2_with fail
   go_roundg 0
   case measure=>omega
   case rel=>exact ⟨4,[b0,b1,b2,b3],rfl,by omega,rfl,rfl,hS5⟩
  ·obtain rfl:l'=[b0,b1,b2,b3]:=hl'
   go_wp2
   go_ret
   exact ⟨_,rfl,by rw [lD.out];exact hS,_,rfl⟩
end
end Go.Proofs.YtlimfgdbfadohaaGreatDoor
namespace Go.Proofs.YtlimfgdbfadohaaGreatDoor
open Go Go.Sl Go.aB Go.ChangeShapes Go.WideShapes Go.RowKit
section
variable {H:Type}{enc:TypeId×Value→H}{P:Program}{W:World}{base:Nat}{spare:Nat→Bool}{held:Bool}
theorem Pq {α:Type} (k:Nat) (hk:0<k):∀ (xs:List (List α)) (_:∀ x∈xs,x.length=k) (i:Nat) (y:α),xs.flatten[i]?=some y→∃ x,xs[i / k]?=some x∧x[i%k]?=some y
 |[],_,_,_,h=>by simp at h
 |x::xs,hl,i,y,h=>by
  have hx:=hl x (.head _)
  rw [List.flatten_cons]at h
  rcases Nat.lt_or_ge i k with hi|hi
  ·rw [List.getElem?_append_left oQ]at h
   refine ⟨x,?_,?_⟩
   ·rw [Nat.div_eq_of_lt hi];rfl
   ·rw [Nat.mod_eq_of_lt hi];exact h
  ·rw [List.getElem?_append_right oQ,hx]at h
   obtain ⟨z,h1,h2⟩:=Pq k hk xs (fun q hq=>hl q (.tail _ hq)) (i - k) y h
   have e1:i / k=(i - k) / k+1:=by
    conv=>lhs;rw [show i=(i - k)+k by omega]
    rw [Nat.add_div_right _ hk]
   have e2:i%k=(i - k)%k:=Nat.mod_eq_sub_mod hi
   exact ⟨z,by rw [e1];exact h1,by rw [e2];exact h2⟩
theorem Pv {α:Type} (k:Nat):∀ (xs:List (List α)) (_:∀ x∈xs,x.length=k),xs.flatten.length=xs.length * k
 |[],_=>by simp
 |x::xs,hl=>by
  rw [List.flatten_cons,List.length_append,Pv k xs (fun q hq=>hl q (.tail _ hq)),hl x (.head _),List.length_cons,Nat.succ_mul];omega
theorem abv {α:Type}{n:Nat}{p:Nat→α→Prop} (h:∀ i,i<n→∃ x,p i x):∃ l:List α,l.length=n∧∀ i x,l[i]?=some x→p i x:=by
 induction n with
 |zero=>exact ⟨[],rfl,fun i x h=>by simp at h⟩
 |succ n ih=>
  obtain ⟨l,h1,h2⟩:=ih fun i hi=>h i (Nat.lt_succ_of_lt hi)
  obtain ⟨x,hx⟩:=h n (Nat.lt_succ_self n)
  refine ⟨l++[x],by simp [h1],fun i y hy=>?_⟩
  rcases Nat.lt_trichotomy i n with hlt|rfl|hgt
  ·rw [List.getElem?_append_left oQ]at hy;exact h2 i y hy
  ·rw [List.getElem?_append_right oQ,h1,Nat.sub_self]at hy
   cases hy;exact hx
  ·rw [List.getElem?_eq_none (by simp;omega)]at hy;cases hy
theorem SL {t e:TypeId}{k fuel:Nat}{v:Value}{x:DataW H×List MemPlace} (ht:P.underlying t=some (.slice e)) (hc:P.cellsOf e=k) (hk:0<k) (h:DataW.trod enc P W base spare held fuel t [v]=some x) :
  ∃ elems:List (List Value),bK k v elems.flatten W∧kK v∧∀ cs∈elems,cs.length=k∧∃ n y,DataW.trod enc P W base spare held n e cs=some y:=by
 rcases Go.Deep.open_slice ht h with ⟨hcs,_⟩|⟨a,len,cap,m,n,D,Pl,hcs,hb,hl,hm,hmm,_,hx⟩
 ·obtain rfl:v = .slice none 0 0:=by simpa using hcs
  exact ⟨[],Ky _ _ _,⟨_,_,_,rfl,Nat.le_refl _,by omega⟩,by simp⟩
 ·obtain rfl:v = .slice (some a) len cap:=by simpa using hcs
  have hlm:len≤m:=by rw [hmm];split <;> omega
  rw [hc]at hx
  obtain ⟨l,l1,l2⟩:=abv (n:=len) fun i hi=>hx i oQ
  have hlen:∀ cs∈l,cs.length=k:=by
   intro cs hcs
   obtain ⟨i,hi,rfl⟩:=List.getElem_of_mem hcs
   obtain ⟨h1,_⟩:=l2 i _ (List.getElem?_eq_getElem hi)
   exact (World.cells?_some h1).2.1
  refine ⟨l,⟨some a,len,cap,rfl,by rw [Pv k l hlen,l1],fun i y hy=>⟨a,rfl,?_⟩⟩,⟨_,_,_,rfl,hl,by unfold maxLen at hm;omega⟩,fun cs hcs=>⟨hlen cs hcs,?_⟩⟩
  ·obtain ⟨cs,h1,h2⟩:=Pq k hk l hlen i y hy
   obtain ⟨h3,_⟩:=l2 _ _ h1
   have h4:=(World.cells?_some h3).2.2 (i%k) (Nat.mod_lt _ hk)
   rw [Go.Deep.add_add,h2]at h4
   rw [← h4]
   congr 2
   rw [Nat.mul_comm];exact (Nat.div_add_mod i k).symm
  ·obtain ⟨i,hi,rfl⟩:=List.getElem_of_mem hcs
   obtain ⟨_,h2⟩:=l2 i _ (List.getElem?_eq_getElem hi)
   exact ⟨n,_,h2⟩
theorem acG {t:TypeId}{fs:Array Field}{fuel:Nat}{cs:List Value}{x:DataW H×List MemPlace} (ht:P.underlying t=some (.struct fs)) (h:DataW.trod enc P W base spare held fuel t cs=some x) :
  cs.length=P.cellsOf t∧∀ (i:Nat) (f:Field),fs[i]?=some f→∃ n y,DataW.trod enc P W base spare held n f.type ((cs.drop f.offset).take (P.cellsOf f.type))=some y:=by
 obtain ⟨xs,n,_,_,hl,hxl,hf⟩:=DataW.trod_struct ht h
 refine ⟨hl,fun i f hi=>⟨n,?_⟩⟩
 have hlt:i<xs.length:=by rw [hxl];exact (Array.getElem?_eq_some_iff.1 hi).1
 exact ⟨xs[i],by rw [hf i f hi];exact List.getElem?_eq_getElem hlt⟩
theorem JH {α β:Type}{f:α→β}{p:α→Prop}:∀ (l:List β) (_:∀ y∈l,∃ x,f x=y∧p x),∃ xs:List α,xs.map f=l∧∀ x∈xs,p x
 |[],_=>⟨[],rfl,by simp⟩
 |y::l,h=>by
  obtain ⟨x,h1,h2⟩:=h y (.head _)
  obtain ⟨xs,h3,h4⟩:=JH l fun z hz=>h z (.tail _ hz)
  refine ⟨x::xs,by simp [h1,h3],fun z hz=>?_⟩
  rcases List.mem_cons.1 hz with rfl|hz
  ·exact h2
  ·exact h4 z hz
def Lh (zs:List Int):Bs:=zs.map fun z=>UInt8.ofNat z.toNat
theorem Ym {zs:List Int} (h:∀ z∈zs,(Lit.int .u8 z).wf=true):ay (Lh zs)=zs.map (.int .u8):=by
 unfold ay Lh
 rw [List.map_map]
 apply List.map_congr_left
 intro z hz
 have hb:=bounds_u8 (h z hz)
 simp only [Function.comp,Value.int.injEq,true_and]
 rw [UInt8.toNat_ofNat']
 omega
theorem Q5 {t e:TypeId}{k:IntKind}{fuel:Nat}{v:Value}{x:DataW H×List MemPlace} (ht:P.underlying t=some (.slice e)) (he:P.underlying e=some (.int k)) (hc:P.cellsOf e=1) (h:DataW.trod enc P W base spare held fuel t [v]=some x) :
  ∃ l:List Int,bK 1 v (l.map (.int k)) W∧kK v∧∀ z∈l,(Lit.int k z).wf=true:=by
 obtain ⟨elems,h1,h2,h3⟩:=SL ht hc oQ h
 obtain ⟨l,h4,h5⟩:=JH (f:=fun z:Int=>[Value.int k z]) (p:=fun z=>(Lit.int k z).wf=true) elems fun cs hcs=>by
  obtain ⟨_,n,y,h6⟩:=h3 cs hcs
  obtain ⟨z,hz,_,hw⟩:=DataW.trod_int he h6
  exact ⟨z,hz.symm,hw⟩
 refine ⟨l,?_,h2,h5⟩
 rw [← h4]at h1
 have:(l.map fun z:Int=>[Value.int k z]).flatten=l.map (.int k):=by
  clear h1 h4 h5
  induction l with
  |nil=>rfl
  |cons z l ih=>simp only [List.map_cons,List.flatten_cons,ih];rfl
 rw [this]at h1
 exact h1
theorem aaN {t e:TypeId}{fuel:Nat}{v:Value}{x:DataW H×List MemPlace} (ht:P.underlying t=some (.slice e)) (he:P.underlying e=some (.int .u8)) (hc:P.cellsOf e=1) (h:DataW.trod enc P W base spare held fuel t [v]=some x) :
  ∃ l:Bs,bK 1 v (ay l) W∧kK v:=by
 obtain ⟨l,h1,h2,h3⟩:=Q5 ht he hc h
 exact ⟨Lh l,by rw [Ym h3];exact h1,h2⟩
theorem aaO {t e:TypeId}{fuel:Nat}{v:Value}{x:DataW H×List MemPlace} (ht:P.underlying t=some (.slice e)) (he:P.underlying e=some (.int .i64)) (hc:P.cellsOf e=1) (h:DataW.trod enc P W base spare held fuel t [v]=some x) :
  ∃ l:List Int,bK 1 v (ints l) W∧kK v∧∀ z∈l,pR z:=by
 obtain ⟨l,h1,h2,h3⟩:=Q5 ht he hc h
 exact ⟨l,h1,h2,fun z hz=>bounds_i64 (h3 z hz)⟩
theorem Yp {w:World}{a:Addr}{v:Value} (h:Sat W w [Sl.old W]) (hc:W.cell? a=some v):w.cell? a=some v:=by
 have hlt:a.block<W.heap.size:=by
  rcases Nat.lt_or_ge a.block W.heap.size with h1|h1
  ·exact h1
  ·unfold World.cell? at hc
   rw [Array.getElem?_eq_none h1]at hc
   simp at hc
 unfold World.cell? at hc ⊢
 rw [h.old hlt];exact hc
theorem Tq {v:Value}{k:Nat}{xs:List Value} (h:bK k v xs W):Ro W [Sl.old W] (bK k v xs):=by
 intro w hw
 obtain ⟨a,n,c,he,hl,hx⟩:=h
 refine ⟨a,n,c,he,hl,fun i x hi=>?_⟩
 obtain ⟨b,hb,hc⟩:=hx i x hi
 exact ⟨b,hb,Yp hw hc⟩
theorem own:ownKnob Tryz.prog.godebug=none:=by kernel_rfl
theorem laidOut:laidOutB Tryz.prog=true:=by kernel_rfl
end
end Go.Proofs.YtlimfgdbfadohaaGreatDoor
namespace Go.Proofs.YtlimfgdbfadohaaGreatDoor
open Go Go.Sl Go.aB Go.MapKept Go.RowKit
section
variable {w0 w:World}{F:List aC}{v bv dv:Value}{q:Nat}
section
variable {P:Program}
theorem Uh {e:TypeId}{k:IntKind} (he:P.underlying e=some (.int k)) (xs:Array Value) (i:Nat) (v:Value) (hv:xs[i]?=some v) (w:World):(part e xs i).run P w = .ok v w:=by
 unfold part isAgg
 simp [Sem.run_bind,run_underlying he,hv]
theorem KN (d:Nat){e:TypeId}{k:IntKind} (he:P.underlying e=some (.int k)) (ks ls:List Int):∀ (is:List Nat),(∀ i∈is,i<ks.length∧i<ls.length)→∀ w,
  (Op.eqItems (d+1) e 1 (ks.map (.int k)).toArray (ls.map (.int k)).toArray is).run P w = .ok (is.all fun i=>ks.getD i 0==ls.getD i 0) w
 |[],_,w=>by simp [Op.eqItems]
 |i::is,h,w=>by
  obtain ⟨h1,h2⟩:=h i (.head _)
  have a1:((ks.map (Value.int k)).toArray)[i * 1]?=some (.int k (ks.getD i 0)):=by
   rw [Nat.mul_one,List.getElem?_toArray,List.getElem?_map,List.getElem?_eq_getElem h1,List.getD_eq_getElem?_getD,List.getElem?_eq_getElem h1];rfl
  have a2:((ls.map (Value.int k)).toArray)[i * 1]?=some (.int k (ls.getD i 0)):=by
   rw [Nat.mul_one,List.getElem?_toArray,List.getElem?_map,List.getElem?_eq_getElem h2,List.getD_eq_getElem?_getD,List.getElem?_eq_getElem h2];rfl
  unfold Op.eqItems
  simp only [Sem.run_bind,Uh he _ _ _ a1,Uh he _ _ _ a2,Result.andThen_ok,run_equalIn_int w d e k k _ _ he]
  have ih:=KN d he ks ls is (fun j hj=>h j (.tail _ hj)) w
  cases hb:(ks.getD i 0==ls.getD i 0)
  ·simp only [List.all_cons,hb,Bool.not_false,if_true,Sem.run_pure,Bool.false_and]
  ·simp only [List.all_cons,hb,Bool.not_true,Bool.false_eq_true,if_false,ih,Bool.true_and]
theorem all_eq (ks ls:List Int) (h:ks.length=ls.length):((List.range ks.length).all fun i=>ks.getD i 0==ls.getD i 0)=decide (ks=ls):=by
 rw [Bool.eq_iff_iff,List.all_eq_true,decide_eq_true_eq]
 constructor
 ·intro hh
  apply List.ext_getElem h
  intro i h1 h2
  have:=hh i (List.mem_range.2 h1)
  rw [beq_iff_eq,List.getD_eq_getElem?_getD,List.getD_eq_getElem?_getD,List.getElem?_eq_getElem h1,List.getElem?_eq_getElem h2]at this
  exact this
 ·rintro rfl i _
  simp
theorem aeC {t e:TypeId}{n:Nat}{k:IntKind}{i:TypeInfo} (hu:P.underlying t=some (.array n e)) (he:P.underlying e=some (.int k)) (hi:P.info? e=some i) (hc:P.cellsOf e=1) (ks ls:List Int) (h1:ks.length=n) (h2:ls.length=n) (w:World) :
  (binOp .neq t (.agg (ks.map (.int k)).toArray) (.agg (ls.map (.int k)).toArray)).run P w = .ok (.bool (!decide (ks=ls))) w:=by
 have h:=run_equalIn_array (P:=P) w 9999 (ks.map (.int k)).toArray (ls.map (.int k)).toArray hu hi
 rw [hc,KN 9998 he ks ls (List.range n) (fun i hi=>by have:=List.mem_range.1 hi;omega)]at h
 rw [run_neq_struct,h,← h1,all_eq ks ls oQ]
 rfl
theorem aer {t e:TypeId}{n:Nat}{k:IntKind}{i:TypeInfo} (hu:P.underlying t=some (.array n e)) (he:P.underlying e=some (.int k)) (hi:P.info? e=some i) (hc:P.cellsOf e=1) (ks ls:List Int) (h1:ks.length=n) (h2:ls.length=n) (w:World) :
  (Op.equalIn 10000 t (.agg (ks.map (.int k)).toArray) (.agg (ls.map (.int k)).toArray)).run P w = .ok (decide (ks=ls)) w:=by
 have h:=run_equalIn_array (P:=P) w 9999 (ks.map (.int k)).toArray (ls.map (.int k)).toArray hu hi
 rw [hc,KN 9998 he ks ls (List.range n) (fun i hi=>by have:=List.mem_range.1 hi;omega)]at h
 rw [h,← h1,all_eq ks ls oQ]
theorem aeA (w:World) (g off:Nat) (t ty:TypeId) (cs ks:Array Value) (fr:Nat×Nat) (d:TypeDesc) (hg:w.heap[g]?=some (.cells cs t fr)) (hk:∀ j v,ks[j]?=some v→cs[off+j]?=some v)
  (hu:P.underlying ty=some d) (hd:(match d with | .struct _ | .array _ _=>true|_=>false)=true) (hi:(P.info? ty).map (·.size)=some ks.size) :
  (loadVar ty ⟨g,off,none⟩).run P w = .ok (.agg ks) w:=by
 have hl:(loadCells ⟨g,off,none⟩ ks.toList.length).run P w = .ok ks.toList.toArray w:=
  run_loadCells_list (P:=P) w ⟨g,off,none⟩ ks.toList (fun j v hv=>by
   have hadd:(⟨g,off,none⟩:Addr).add j=⟨g,off+j,none⟩:=by unfold Addr.add;split <;> simp_all
   rw [hadd,cell_of_row w g _ cs t fr hg]
   exact hk j v (by simpa using hv))
 cases hq:P.info? ty with
 |none=>simp [hq]at hi
 |some i=>
  have hs:i.size=ks.size:=by simpa [hq] using hi
  have hagg:(isAgg ty).run P w = .ok true w:=by
   unfold isAgg
   rw [Sem.run_bind,run_underlying hu w]
   cases d <;> simp_all
  simp only [Array.length_toList,Array.toArray_toList]at hl
  simp [loadVar,Sem.run_bind,hagg,sizeOf,typeInfo,hq,hs,hl]
theorem Ls {ops:Array Oper}{rest:List Oper}{o:Oper}{a:Act}{w:World}{Q:Exit→Act→World→Prop} (hgd:o.guard=none) (ty:TypeId) (x:Operand) (ho:o.op = .load ty x)
  (g off:Nat) (hx:a.eval x = .pointer (some ⟨g,off,none⟩)) (t:TypeId) (cs ks:Array Value) (fr:Nat×Nat) (d:TypeDesc) (hg:w.heap[g]?=some (.cells cs t fr)) (hk:∀ j v,ks[j]?=some v→cs[off+j]?=some v)
  (hu:P.underlying ty=some d) (hd:(match d with | .struct _ | .array _ _=>true|_=>false)=true) (hi:(P.info? ty).map (·.size)=some ks.size)
  (h:wpList P ops Q rest (a.put o.dst (.agg ks)) w):wpList P ops Q (o::rest) a w:=
 wpList_plain hgd fun _ hK=>by
  unfold Oper.wp execOp
  simp only [ho,hx,Instr.loadAt,Instr.sureAddr,Sem.run_bind,Sem.run_pure,Result.andThen_ok,aeA w g off t ty cs ks fr d hg hk hu hd hi]
  exact hK _ _ h
end
def kW (x:ak.aX) (dv:Value):List Value:= .int .i64 x.tag::(ay x.key++[dv])
def dI (x:ak.aX) (dv:Value):Array Value:=(kW x dv).toArray
theorem kV (x:ak.aX) (dv:Value) (hk:x.key.length=32):(dI x dv).size=34:=by unfold dI kW;simp [ay,hk]
theorem xW (x:ak.aX) (dv:Value):(dI x dv)[0]?=some (.int .i64 x.tag):=rfl
theorem Bh (x:ak.aX) (dv:Value) (hk:x.key.length=32):(dI x dv)[33]?=some dv:=by
 unfold dI kW
 rw [List.getElem?_toArray,List.getElem?_cons_succ,List.getElem?_append_right (by rw [aU];omega),aU,hk];rfl
theorem OZ (x:ak.aX) (dv:Value) (hk:x.key.length=32):∀ j v,(ay x.key).toArray[j]?=some v→(dI x dv)[1+j]?=some v:=by
 intro j v h
 rw [List.getElem?_toArray]at h
 have hj:j<(ay x.key).length:=(List.getElem?_eq_some_iff.1 h).1
 unfold dI kW
 rw [List.getElem?_toArray,Nat.add_comm,List.getElem?_cons_succ,List.getElem?_append_left hj];exact h
theorem D6 (k:Bs):ay k=(k.map fun b=>(b.toNat:Int)).map (.int .u8):=by unfold ay;rw [List.map_map];rfl
theorem Q8 {k l:Bs} (h:(k.map fun b=>(b.toNat:Int))=l.map fun b=>(b.toNat:Int)):k=l:=by
 induction k generalizing l with
 |nil=>cases l with
  |nil=>rfl
  |cons=>simp at h
 |cons a k ih=>cases l with
  |nil=>simp at h
  |cons b l=>
   simp only [List.map_cons,List.cons.injEq]at h
   rw [ih h.2]
   congr 1
   exact UInt8.toNat_inj.1 oQ
set_option maxRecDepth 20000 in
theorem RZ (k l:Bs) (hk:k.length=32) (hl:l.length=32) (w:World):(binOp .neq 30 (.agg (ay k).toArray) (.agg (ay l).toArray)).run Tryz.prog w = .ok (.bool (!decide (k=l))) w:=by
 obtain ⟨i,hi,_⟩:=uF
 have:=aeC (P:=Tryz.prog) Tryz.underlying30 Tryz.underlying5 hi au (k.map fun b=>(b.toNat:Int)) (l.map fun b=>(b.toNat:Int)) (by simpa using hk) (by simpa using hl) w
 rw [D6,D6,this]
 congr 3
 rw [Bool.eq_iff_iff,decide_eq_true_eq,decide_eq_true_eq]
 exact ⟨fun h=>Q8 h,fun h=>by rw [h]⟩
set_option maxRecDepth 20000 in
theorem pJ (k l:Bs) (hk:k.length=32) (hl:l.length=32) (w:World):(Op.equalIn 10000 30 (.agg (ay k).toArray) (.agg (ay l).toArray)).run Tryz.prog w = .ok (decide (k=l)) w:=by
 obtain ⟨i,hi,_⟩:=uF
 have:=aer (P:=Tryz.prog) Tryz.underlying30 Tryz.underlying5 hi au (k.map fun b=>(b.toNat:Int)) (l.map fun b=>(b.toNat:Int)) (by simpa using hk) (by simpa using hl) w
 rw [D6,D6,this]
 congr 2
 rw [eq_iff_iff]
 exact ⟨fun h=>Q8 h,fun h=>by rw [h]⟩
set_option maxRecDepth 20000 in
theorem ahp:(ay ak.zero32).toArray=#[.int .u8 0,.int .u8 0,.int .u8 0,.int .u8 0,.int .u8 0,.int .u8 0,.int .u8 0,.int .u8 0,.int .u8 0,.int .u8 0,.int .u8 0,.int .u8 0,.int .u8 0,.int .u8 0,.int .u8 0,.int .u8 0,.int .u8 0,.int .u8 0,.int .u8 0,.int .u8 0,.int .u8 0,.int .u8 0,.int .u8 0,.int .u8 0,.int .u8 0,.int .u8 0,.int .u8 0,.int .u8 0,.int .u8 0,.int .u8 0,.int .u8 0,.int .u8 0]:=rfl
set_option maxRecDepth 20000 in
theorem Zi (k:Bs) (hk:k.length=32) (w:World):(Op.equalIn 10000 30 (.agg (ay k).toArray) (.agg #[.int .u8 0,.int .u8 0,.int .u8 0,.int .u8 0,.int .u8 0,.int .u8 0,.int .u8 0,.int .u8 0,.int .u8 0,.int .u8 0,.int .u8 0,.int .u8 0,.int .u8 0,.int .u8 0,.int .u8 0,.int .u8 0,.int .u8 0,.int .u8 0,.int .u8 0,.int .u8 0,.int .u8 0,.int .u8 0,.int .u8 0,.int .u8 0,.int .u8 0,.int .u8 0,.int .u8 0,.int .u8 0,.int .u8 0,.int .u8 0,.int .u8 0,.int .u8 0])).run Tryz.prog w = .ok (decide (k=ak.zero32)) w:=by
 rw [← ahp]
 exact pJ k _ hk rfl w
end
section
variable {w0 w:World}{F:List aC}{v bv dv:Value}{q:Nat}
set_option maxRecDepth 20000 in
theorem Oc (x:ak.aX) (hk:x.key.length=32) (a:Option Addr) (c:Nat) (h:Sat w0 w F) :
  Calls Tryz.prog 175 #[.agg (dI x (.slice a x.data.length c))] w (aI fun v w'=>v=errno (ak.check x)∧Sat w0 w' F):=by
 have hA:=h.alloc (.cells (dI x (.slice a x.data.length c)) 137)
 have c0:=hA.cellAt 0 _ (xW x _)
 have xM:=hA.cellAt 33 _ (Bh x _ hk)
 have hat:=hA.at
 have hnk:=Zi x.key hk
 have hkk:=OZ x (.slice a x.data.length c) hk
 have yV:=uQ hkk;have nP:=uQ hat
 have hks:(ay x.key).toArray.size=32:=by simp [ay,hk]
 have dW:=uQ hks
 have HA:=uQ hA.drop
 clear hkk hat hks hA
 generalize hL:x.data.length=L at *
 have HL:=uQ hL;clear hL
 by_cases t2:x.tag=2
 ·rw [t2]at c0
  by_cases hz:x.key=ak.zero32
  ·have hzd:decide (x.key=ak.zero32)=true:=decide_eq_true hz
   have Hz:=uQ hz
   clear hz
   by_cases h0:0<L
   ·have Hf:=uQ (show ak.check x=4 by unfold ak.check;simp [t2,Hz.out,HL.out,h0])
    have h0i:(0:Int)<(L:Int):=by omega
    go_enter Tryz.func175,Tryz.ntmps175
    go_wp2_with (refine Ls (P:=Tryz.prog) ah 30 _ ah _ 1 ah _ _ (ay x.key).toArray (0,0) _ nP.out yV.out Tryz.underlying30 ah (by rw [dW.out];kernel_rfl) ?_)
    go_ret
    exact ⟨errno 4,rfl,by rw [Hf.out],HA.out⟩
   ·obtain rfl:L=0:=by omega
    have Hf:=uQ (show ak.check x=0 by unfold ak.check;simp [t2,Hz.out,HL.out])
    go_enter Tryz.func175,Tryz.ntmps175
    go_wp2_with (refine Ls (P:=Tryz.prog) ah 30 _ ah _ 1 ah _ _ (ay x.key).toArray (0,0) _ nP.out yV.out Tryz.underlying30 ah (by rw [dW.out];kernel_rfl) ?_)
    go_ret
    exact ⟨errno 0,rfl,by rw [Hf.out],HA.out⟩
  ·have hzd:decide (x.key=ak.zero32)=false:=decide_eq_false hz
   have Hf:=uQ (show ak.check x=4 by unfold ak.check;simp [t2,hz])
   clear hz
   go_enter Tryz.func175,Tryz.ntmps175
   go_wp2_with (refine Ls (P:=Tryz.prog) ah 30 _ ah _ 1 ah _ _ (ay x.key).toArray (0,0) _ nP.out yV.out Tryz.underlying30 ah (by rw [dW.out];kernel_rfl) ?_)
   go_ret
   exact ⟨errno 4,rfl,by rw [Hf.out],HA.out⟩
 ·have t2b:(x.tag==2)=false:=by simpa using t2
  clear hnk
  by_cases t0:x.tag=0
  ·rw [t0]at c0
   by_cases hb:16384<L
   ·have Hf:=uQ (show ak.check x=5 by unfold ak.check;simp [t0,HL.out,hb])
    have hbi:(16384:Int)<(L:Int):=by omega
    go_enter Tryz.func175,Tryz.ntmps175
    go_wp2
    go_ret
    exact ⟨errno 5,rfl,by rw [Hf.out],HA.out⟩
   ·have Hf:=uQ (show ak.check x=0 by unfold ak.check;simp [t0,HL.out,hb])
    have hbi:¬ (16384:Int)<(L:Int):=by omega
    go_enter Tryz.func175,Tryz.ntmps175
    go_wp2
    go_ret
    exact ⟨errno 0,rfl,by rw [Hf.out],HA.out⟩
  ·have t0b:(x.tag==0)=false:=by simpa using t0
   by_cases t1:x.tag=1
   ·rw [t1]at c0
    by_cases h0:0<L
    ·have Hf:=uQ (show ak.check x=4 by unfold ak.check;simp [t1,HL.out,h0])
     have h0i:(0:Int)<(L:Int):=by omega
     go_enter Tryz.func175,Tryz.ntmps175
     go_wp2
     go_ret
     exact ⟨errno 4,rfl,by rw [Hf.out],HA.out⟩
    ·obtain rfl:L=0:=by omega
     have Hf:=uQ (show ak.check x=0 by unfold ak.check;simp [t1,HL.out])
     go_enter Tryz.func175,Tryz.ntmps175
     go_wp2
     go_ret
     exact ⟨errno 0,rfl,by rw [Hf.out],HA.out⟩
   ·have t1b:(x.tag==1)=false:=by simpa using t1
    have Hf:=uQ (show ak.check x=4 by unfold ak.check;simp [t0,t1,t2])
    clear t0 t1 t2
    generalize x.tag=T at *
    go_enter Tryz.func175,Tryz.ntmps175
    go_wp2
    go_ret
    exact ⟨errno 4,rfl,by rw [Hf.out],HA.out⟩
end
section
variable {w0 w:World}{F:List aC}{v bv dv:Value}{q:Nat}
theorem RN (l c:Nat) (h1:l≤c) (h2:c≤1099511627776) (w:World) :
  (Instr.makeSlice 27 (.int .i64 l) (.int .i64 c)).run Tryz.prog w = .ok (.slice (some ⟨w.heap.size,0,none⟩) l c) (w.alloc (.cells (madeCells #[.int .u8 0] c) 5)):=by
 obtain ⟨i,hi,hz0,hz1,hz2⟩:=uF
 have:=run_make (P:=Tryz.prog) w 27 5 i _ Tryz.underlying27 hi hz0 .i64 .i64 (l:Int) (c:Int) oQ oQ (by rw [hz2];omega) oQ
 simp only [Int.toNat_natCast,hz1,Nat.mul_one]at this
 exact this
theorem RI {l c:Nat} (h1:l≤c) (h2:c≤1099511627776) (h:Sat w0 w (pt q (.cells (madeCells #[.int .u8 0] c) 5 (0,0))::F)):Sat w0 w (aK (.slice (some ⟨q,0,none⟩) l c) (List.replicate l 0)::F):=by
 refine Sat.jV h (by rw [aU,List.length_replicate,Nat.mul_one]) h1 (by rw [size_madeCells,Nat.mul_one];exact Nat.le_refl _) (by unfold maxLen;omega) ?_
 rw [toList_madeCells_one,Nat.mul_one,List.take_replicate,Nat.min_eq_left h1]
 unfold ay
 rw [List.map_replicate];rfl
section
variable {ops:Array Oper}{rest:List Oper}{o:Oper}{a:Act}{Q:Exit→Act→World→Prop}{sv:Value}
theorem Vq (hgd:o.guard=none) (d s:Operand)
  (ho:o.op = .call { callee:= .builtin .copy,args:=#[d,s],argTypes:=#[27,27] }) (g n c:Nat) (hd:a.eval d = .slice (some ⟨g,0,none⟩) n c) (hs:a.eval s=sv)
  {l x:Bs} (h:Sat w0 w (aK (.slice (some ⟨g,0,none⟩) n c) l::F)) (hx:bK 1 sv (ay x) w) (h0:x≠[]) (hl:x.length≤l.length)
  (hK:∀ w',Sat w0 w' (aK (.slice (some ⟨g,0,none⟩) n c) (x++l.drop x.length)::F)→wpList Tryz.prog ops Q rest (a.put o.dst (goInt x.length)) w'):wpList Tryz.prog ops Q (o::rest) a w:=by
 obtain ⟨i,hi,hz0,hz1,hz2⟩:=uF
 obtain ⟨sa,sn,sc,rfl,hsl,hcell⟩:=hx
 rw [aU,Nat.mul_one]at hsl
 obtain ⟨ad,rfl⟩:∃ ad,sa=some ad:=by
  cases x with
  |nil=>exact absurd rfl h0
  |cons b x=>obtain ⟨ad,h1,_⟩:=hcell 0 _ rfl;exact ⟨ad,h1⟩
 rcases Sat.jR h with ⟨he,_⟩|⟨g',n',c',cs,he,e1,e2,e3,e4,e5,hp⟩
 ·cases he
 ·cases he
  rw [aU,Nat.mul_one]at e1
  rw [Nat.mul_one]at e3 e5
  have hsz:(Tryz.prog.info? 5).map (·.size)=some 1:=by rw [hi];simp [hz1]
  refine wpList_copy_own hgd d s _ _ ho 5 Tryz.underlying27 hsz g 0 n c ad sn sc hd hs cs 5 hp.at (ay x) (by rw [aU];show _=min sn n;omega) (fun j v hj=>by obtain ⟨b,hb,hc⟩:=hcell j v hj;cases hb;exact hc) (by rw [aU];omega) (jU _) ?_
  rw [aU]
  refine hK _ ?_
  have h1:=hp.turn (w':=w.setRow g (cs.toList.take 0++(ay x++cs.toList.drop (0+x.length))).toArray) rfl rfl rfl (by simp) (setRow_heap w g cs _ _ _ hp.at) (fun j hj _=>setRow_other w g j _ hj)
  refine Sat.jV h1 ?_ e2 ?_ e4 ?_
  ·rw [aU,List.length_append,List.length_drop,Nat.mul_one];omega
  ·simp only [List.take_zero,List.nil_append,List.size_toArray,List.length_append,List.length_drop,aU,Array.length_toList];omega
  ·simp only [List.take_zero,List.nil_append,Nat.zero_add,Nat.mul_one]
   unfold ay at e5 ⊢
   rw [List.map_append,List.map_drop,← e5,List.take_append,List.length_map,List.take_of_length_le (by simp;omega),List.drop_take]
end
set_option maxRecDepth 20000 in
theorem ZG (x:ak.aX) (hk:x.key.length=32) (a:Option Addr) (c:Nat) (h:Sat w0 w F) (hL:x.data.length≤1099511627776) :
  Calls Tryz.prog 176 #[.agg (dI x (.slice a x.data.length c))] w (aI fun v w'=>v = .int .i64 (ak.size x:Nat)∧Sat w0 w' F):=by
 have hA:=h.alloc (.cells (dI x (.slice a x.data.length c)) 137)
 have hch:=Oc x hk a c hA
 have hat:=hA.at
 have hsz:=kV x (.slice a x.data.length c) hk
 have nP:=uQ hat;have dw:=uQ hsz;have Hk:=uQ hk;have HL:=uQ hL
 clear hat hsz hk hA hL
 go_enter Tryz.func176,Tryz.ntmps176
 go_wp2_with (refine wpList_load_row (P:=Tryz.prog) ah 137 _ ah _ ah _ _ (0,0) _ nP.out Tryz.underlying137 ah (by rw [dw.out];kernel_rfl) ?_)
 refine hch.mono ?_
 rintro e w1 ⟨v,rfl,rfl,hS1⟩
 have c0:=hS1.cellAt 0 _ (xW x _)
 have xM:=hS1.cellAt 33 _ (Bh x _ Hk.out)
 clear hch
 by_cases hc:ak.check x=0
 ·by_cases ht:x.tag=2
  ·have Hf:=uQ (show ak.size x=9 by unfold ak.size;simp [hc,ht])
   rw [hc]
   rw [ht]at c0
   go_wp2
   go_ret
   exact ⟨.int .i64 9,rfl,by rw [Hf.out];rfl,hS1.drop⟩
  ·have Hf:=uQ (show ak.size x=41+x.data.length by unfold ak.size;simp [hc,ht])
   have htb:(x.tag==2)=false:=by simpa using ht
   have hwr:IntKind.i64.wrap (41+(x.data.length:Int))=41+(x.data.length:Int):=IntWalk.i64_in _ (by have:=HL.out;omega)
   rw [hc]
   clear ht
   generalize x.tag=T at *
   go_wp2
   go_ret
   exact ⟨.int .i64 (41+(x.data.length:Int)),rfl,by rw [Hf.out];rfl,hS1.drop⟩
 ·have Hf:=uQ (show ak.size x=0 by unfold ak.size;simp [hc])
  have hcb:(ak.check x==0)=false:=by simpa using hc
  clear hc
  generalize ak.check x=E at *
  go_wp2
  go_ret
  exact ⟨.int .i64 0,rfl,by rw [Hf.out];rfl,hS1.drop⟩
end
section
variable {w0 w:World}{F:List aC}{v bv dv x:Value}{q:Nat}
section
variable {ops:Array Oper}{rest:List Oper}{o:Oper}{a:Act}{Q:Exit→Act→World→Prop}
theorem yO (hgd:o.guard=none) (s y:Operand) (ho:o.op = .call { callee:= .builtin .append,args:=#[s,y],argTypes:=#[27,27] })
  (hv:a.eval s=v) (hxv:a.eval y=x) {l m:Bs} (h:Sat w0 w (aK v l::F)) (hx:bK 1 x (ay m) w) (hlen:l.length+m.length≤1099511627776) (hne:l++m≠[])
  (hK:∀ b n c w',Sat w0 w' (aK (.slice (some ⟨b,0,none⟩) n c) (l++m)::F)→n=(l++m).length→n≤c→c≤9223372036854775807→wpList Tryz.prog ops Q rest (a.put o.dst (.slice (some ⟨b,0,none⟩) n c)) w'):wpList Tryz.prog ops Q (o::rest) a w:=by
 obtain ⟨i,hi,hz0,hz1,hz2⟩:=uF
 have h63:(ay l).length+(ay m).length≤maxLen:=by rw [aU,aU];unfold maxLen;omega
 have hby:((ay l).length+(ay m).length) * i.bytes≤140737488355328:=by rw [aU,aU,hz2];omega
 refine yN (w0:=w0) hgd s y 27 ho _ i _ Tryz.underlying27 hi hz0 hz1 ah oQ hv hxv (jU _) h hx h63 hby ?_
 intro v' w' hS hn
 obtain ⟨b,n,c,rfl⟩:=hn (by rw [← jQ];intro e;apply hne;simpa [ay] using e)
 rw [← jQ]at hS
 obtain ⟨a',n',c',he,h1,h2,h3⟩:=iY hS
 cases he
 exact hK b n c w' hS h3 h1 h2
end
theorem acz (t:Int) (h:t=0∨t=1∨t=2):IntKind.u8.wrap t=((UInt8.ofNat t.toNat).toNat:Int):=by
 rcases h with rfl|rfl|rfl <;> decide
theorem aa9 (e:ak.aX) (hk:e.key.length=32) (dv:Value) (h:Sat w0 w (pt q (.cells (dI e dv) 137 (0,0))::F)):bK 1 (.slice (some ⟨q,1,none⟩) 32 32) (ay e.key) w:=by
 refine ⟨_,32,32,rfl,by rw [aU,hk],fun i y hi=>⟨_,rfl,?_⟩⟩
 have e1:(⟨q,1,none⟩:Addr).add i=⟨q,1+i,none⟩:=by unfold Addr.add;split <;> simp_all
 rw [e1]
 exact h.cellAt _ _ (OZ e dv hk i y (by simpa using hi))
set_option maxRecDepth 20000 in
theorem Y8 (e:ak.aX) (hk:e.key.length=32) (da:Option Addr) (dc:Nat) (hd:Ro w0 F (bK 1 (.slice da e.data.length dc) (ay e.data))) (hH:Ro w0 F Half) (h:Sat w0 w F) (hL:e.data.length≤1099511627) :
  Calls Tryz.prog 138 #[.agg (dI e (.slice da e.data.length dc))] w (aI fun v w'=>∃ bv,v = .tuple #[bv,errno (ak.encode e).2]∧(∃ a n c,bv = .slice a n c)∧Sat w0 w' (aK bv (ak.encode e).1::F)):=by
 have hA:=h.alloc (.cells (dI e (.slice da e.data.length dc)) 137)
 have hch:=Oc e hk da dc hA
 have hat:=hA.at
 have hsz:=kV e (.slice da e.data.length dc) hk
 have nP:=uQ hat;have dw:=uQ hsz;have Hk:=uQ hk;have HL:=uQ hL;have Hd:=uQ hd;have HH:=uQ hH
 clear hat hsz hk hA hL hd hH
 go_enter Tryz.func138,Tryz.ntmps138
 go_wp2_with (refine wpList_load_row (P:=Tryz.prog) ah 137 _ ah _ ah _ _ (0,0) _ nP.out Tryz.underlying137 ah (by rw [dw.out];kernel_rfl) ?_)
 refine hch.mono ?_
 rintro ee w1 ⟨v,rfl,rfl,hS1⟩
 clear hch
 generalize w.heap.size=q at *
 by_cases hc:ak.check e=0
 ·have Qn:=uQ hS1.at
  have hsc:=ZG e Hk.out da dc hS1 (by have:=HL.out;omega)
  have Hc:=uQ hc
  have htag:e.tag=0∨e.tag=1∨e.tag=2:=by
   unfold ak.check at hc
   by_cases t0:e.tag=0
   ·exact .inl t0
   by_cases t2:e.tag=2
   ·exact .inr (.inr t2)
   by_cases t1:e.tag=1
   ·exact .inr (.inl t1)
   simp [t0,t1,t2]at hc
  have Xl:=uQ htag
  rw [hc]
  clear hc htag
  go_wp2_with (refine wpList_load_row (P:=Tryz.prog) ah 137 _ ah _ ah _ _ (0,0) _ Qn.out Tryz.underlying137 ah (by rw [dw.out];kernel_rfl) ?_)
  refine hsc.mono ?_
  rintro ee w2 ⟨v,rfl,rfl,hS2⟩
  clear hsc Qn nP
  have QA:9≤ak.size e∧ak.size e≤41+e.data.length:=by
   unfold ak.size
   rw [if_neg (by rw [Hc.out];simp)]
   split <;> omega
  have hN:=uQ QA
  have hmk:=RN 4 (ak.size e) oQ (by have:=HL.out;omega)
  have hcast:((4:Nat):Int)=4:=rfl
  rw [hcast]at hmk
  have hA2:=(hS2.alloc (.cells (madeCells #[.int .u8 0] (ak.size e)) 5))
  have hB:=RI (l:=4) oQ (by have:=HL.out;omega) hA2
  have hput:=CO (ak.size e) (by have:=HL.out;omega) hB
  have hwu:IntKind.u64.wrap (ak.size e:Int)=(ak.size e:Int):=by
   rw [show ∀ n:Int,IntKind.u64.wrap n=n%18446744073709551616 from fun n=>by simp [IntKind.wrap,IntKind.bits,IntKind.signed]]
   have:=HL.out;omega
  clear hcast QA hA2
  go_wp2_with fail
  refine hput.mono ?_
  rintro ee w3 ⟨v,rfl,hS3,pa,rfl⟩
  clear hput hwu hB hmk
  generalize w2.heap.size=q2 at *
  have c0:=(hS3.sel 3 [2] rfl rfl).cellAt 0 _ (xW e _)
  have hr1:bK 1 (.slice pa 4 4) (ay (ak.le (ak.size e) 4)) w3:=Sat.rd hS3
  have hl4:=ak.gW (ak.size e) 4
  obtain ⟨tb,htb⟩:∃ tb,tb=UInt8.ofNat e.tag.toNat:=⟨_,rfl⟩
  have QO:e.tag%256=(tb.toNat:Int):=by
   rw [htb,← acz _ Xl.out]
   exact (IntKind.wrap_u8' _).symm
  have GV:=uQ htb
  clear htb
  have hd3:=Hd.out
  have wF:=uQ (show (List.replicate 4 (0:UInt8)++ak.le (ak.size e) 4).length=8 by rw [List.length_append,hl4,List.length_replicate])
  have MG:=uQ hl4
  clear hl4
  by_cases ht2:e.tag=2
  ·have AQ:=uQ ht2
   rw [ht2]at c0
   have QN:tb=2:=by rw [GV.out,ht2];rfl
   have Xm:=uQ QN
   clear QO QN
   go_wp2_with (first
    |(at_builtin;refine yO (w0:=w0) (l:=List.replicate 4 0) (m:=ak.le (ak.size e) 4) ah _ _ ah ah ah (hS3.sel 3 [1,2] rfl rfl) hr1 (by rw [MG.out,List.length_replicate];omega) (by simp) ?_;intro b4 n4 k4 w4 hS4 hx1 hx2 hx3;clear hx1 hx2 hx3 hr1 c0 hS3;have c0:=hS4.aP.cellAt 0 _ (xW e _);rw [AQ.out]at c0;have hB4:=hS4.alloc (.cells #[.int .u8 2] 5);have hr4:bK 1 (.slice (some ⟨w4.heap.size,0,none⟩) 1 1) (ay [2]) (w4.alloc (.cells #[.int .u8 2] 5)):=yE w4 #[.int .u8 2] 5 1 1 1 rfl)
    |(at_builtin;refine yO (w0:=w0) (l:=List.replicate 4 0++ak.le (ak.size e) 4) (m:=[2]) ah _ _ ah ah ah hB4.aP hr4 (by rw [wF.out];simp) (by simp) ?_;intro b5 n5 k5 w5 hS5 hx1 hx2 hx3;clear hx1 hx2 hx3 hr4 hB4 hS4 c0;have c0:=hS5.dM.cellAt 0 _ (xW e _);rw [AQ.out]at c0;have xM:=hS5.dM.cellAt 33 _ (Bh e _ Hk.out);have yu:=Hd.out w5 (hS5.sel 3 [] rfl rfl))
    |(at_builtin;refine yO (w0:=w0) (l:=List.replicate 4 0++ak.le (ak.size e) 4++[2]) (m:=e.data) ah _ _ ah ah ah hS5 yu (by rw [List.length_append,wF.out];have:=HL.out;simp;omega) (by simp) ?_;intro b7 n7 k7 w7 hS7 uy yh hk7;have hn4:4≤n7:=(by rw [uy];simp only [List.length_append,List.length_replicate];omega);have hk4:¬ k7=4:=(by rw [uy]at yh;simp only [List.length_append,List.length_replicate,List.length_cons]at yh;omega);have aav:(4:Int)≤(n7:Int):=oQ;have Au:=uQ uy;clear uy yu hS5 xM c0))
   have hbody:List.replicate 4 0++ak.le (ak.size e) 4++[2]++e.data=List.replicate 4 0++ak.body e:=by
    unfold ak.body
    rw [if_pos AQ.out,← GV.out,Xm.out]
    simp only [List.append_assoc,List.nil_append]
   obtain ⟨XX,IW,F9,BJ⟩:∃ XX:List aC,(∀ w' A,Sat w0 w' (A::XX)→Sat w0 w' (A::F))∧Ro w0 (aK (.slice (some ⟨b7,0,none⟩) n7 k7) (List.replicate 4 0++ak.body e)::XX) Half∧Sat w0 w7 (aK (.slice (some ⟨b7,0,none⟩) n7 k7) (List.replicate 4 0++ak.le (ak.size e) 4++[2]++e.data)::XX):=
    ⟨_::_::F,fun w' A hw=>hw.sel 3 [0] rfl rfl,Ro.more (L:=[_,_,_]) HH.out,hS7⟩
   clear hS7
   have hS7:=BJ
   clear BJ
   rw [hbody]at hS7 Au
   have hbl:(ak.body e).length≤1099511627776:=by
    have h1:=HL.out;have h2:=Hk.out
    unfold ak.body
    simp only [List.length_append,ak.gW,List.length_cons,List.length_nil]
    split <;> simp <;> omega
   have Jd:n7=4+(ak.body e).length:=by rw [Au.out,List.length_append,List.length_replicate]
   have hrb:∀ w',Sat w0 w' (aK (.slice (some ⟨b7,0,none⟩) n7 k7) (List.replicate 4 0++ak.body e)::XX)→bK 1 (.slice (some ⟨b7,4,none⟩) (n7 - 4) (k7 - 4)) (ay (ak.body e)) w':=by
    intro w' hw'
    have h1:=Kz (lo:=4) (k:=n7 - 4) (Sat.rd hw') oQ (some ⟨b7,4,none⟩) (by rw [if_neg hk4];simp [pG]) yh (k7 - 4)
    have h2:((ay (List.replicate 4 0++ak.body e)).drop 4).take (n7 - 4)=ay (ak.body e):=by
     rw [jQ,List.drop_append_of_le_length (by simp [ay])]
     have:(ay (List.replicate 4 0)).drop 4=[]:=by simp [ay]
     rw [this,List.nil_append,List.take_of_length_le (by rw [aU];omega)]
    rw [h2]at h1
    exact h1
   have yg:=Ii (F:=aK (.slice (some ⟨b7,0,none⟩) n7 k7) (List.replicate 4 0++ak.body e)::XX) (ak.body e) F9 hrb hS7 hbl
   have lK:=uQ hbl
   clear hrb hbl Jd
   go_wp2_with fail
   refine yg.mono ?_
   rintro ee w8 ⟨v,rfl,rfl,rfl⟩
   clear yg
   have IZ:=ak.Ij (ak.body e)
   have BO:=CO (ak.crc (ak.body e)) oQ hS7
   have hwc:IntKind.u64.wrap (ak.crc (ak.body e):Int)=(ak.crc (ak.body e):Int):=by
    rw [show ∀ n:Int,IntKind.u64.wrap n=n%18446744073709551616 from fun n=>by simp [IntKind.wrap,IntKind.bits,IntKind.signed]]
    omega
   have Jl:(ak.crc (ak.body e):Int)%18446744073709551616=(ak.crc (ak.body e):Int):=by omega
   clear IZ
   go_wp2_with fail
   refine BO.mono ?_
   rintro ee w9 ⟨v,rfl,iT,pb,rfl⟩
   clear BO hwc Jl
   have Jh:bK 1 (.slice pb 4 4) (ay (ak.le (ak.crc (ak.body e)) 4)) w9:=Sat.rd iT
   go_wp2_with (refine Vq (w0:=w0) (x:=ak.le (ak.crc (ak.body e)) 4) ah _ _ ah b7 n7 k7 ah ah iT.aP Jh (by intro e0;have:=ak.gW (ak.crc (ak.body e)) 4;rw [e0]at this;cases this) (by rw [ak.gW,List.length_append,List.length_replicate];omega) ?_;intro w10 bP)
   go_ret2
   have hfin:ak.encode e=(ak.le (ak.crc (ak.body e)) 4++ak.body e,0):=by unfold ak.encode;rw [if_neg (by rw [Hc.out];simp)]
   rw [hfin]
   refine ⟨_,rfl,_,rfl,⟨_,_,_,rfl⟩,?_⟩
   have hdr:(List.replicate 4 (0:UInt8)++ak.body e).drop (ak.le (ak.crc (ak.body e)) 4).length=ak.body e:=by
    rw [ak.gW,List.drop_append_of_le_length (by simp)];simp
   rw [hdr]at bP
   exact IW _ _ (bP.sel 2 [0] rfl rfl)
  ·have ht2b:(e.tag==2)=false:=by simpa using ht2
   have AQ:=uQ ht2
   clear ht2
   go_wp2_with (first
    |(at_builtin;refine yO (w0:=w0) (l:=List.replicate 4 0) (m:=ak.le (ak.size e) 4) ah _ _ ah ah ah (hS3.sel 3 [1,2] rfl rfl) hr1 (by rw [MG.out,List.length_replicate];omega) (by simp) ?_;intro b4 n4 k4 w4 hS4 hx1 hx2 hx3;clear hx1 hx2 hx3 hr1 c0 hS3;have c0:=hS4.aP.cellAt 0 _ (xW e _);have hB4:=hS4.alloc (.cells #[.int .u8 tb.toNat] 5);have hr4:bK 1 (.slice (some ⟨w4.heap.size,0,none⟩) 1 1) (ay [tb]) (w4.alloc (.cells #[.int .u8 tb.toNat] 5)):=yE w4 #[.int .u8 tb.toNat] 5 1 1 1 rfl)
    |(at_builtin;refine yO (w0:=w0) (l:=List.replicate 4 0++ak.le (ak.size e) 4) (m:=[tb]) ah _ _ ah ah ah hB4.aP hr4 (by rw [wF.out];simp) (by simp) ?_;intro b5 n5 k5 w5 hS5 hx1 hx2 hx3;clear hx1 hx2 hx3 hr4 hB4 hS4 c0;have c0:=hS5.dM.cellAt 0 _ (xW e _);have xM:=hS5.dM.cellAt 33 _ (Bh e _ Hk.out);have QE:=aa9 e Hk.out _ hS5.dM)
    |(at_builtin;refine yO (w0:=w0) (l:=List.replicate 4 0++ak.le (ak.size e) 4++[tb]) (m:=e.key) ah _ _ ah ah ah hS5 QE (by rw [List.length_append,wF.out,Hk.out];simp) (by simp) ?_;intro b6 n6 k6 w6 hS6 hx1 hx2 hx3;clear hx1 hx2 hx3 QE hS5 c0 xM;have xM:=hS6.dM.cellAt 33 _ (Bh e _ Hk.out);have yu:=Hd.out w6 (hS6.sel 3 [] rfl rfl))
    |(at_builtin;refine yO (w0:=w0) (l:=List.replicate 4 0++ak.le (ak.size e) 4++[tb]++e.key) (m:=e.data) ah _ _ ah ah ah hS6 yu (by rw [List.length_append,List.length_append,wF.out,Hk.out];have:=HL.out;simp;omega) (by simp) ?_;intro b7 n7 k7 w7 hS7 uy yh hk7;have hn4:4≤n7:=(by rw [uy];simp only [List.length_append,List.length_replicate];omega);have hk4:¬ k7=4:=(by rw [uy]at yh;simp only [List.length_append,List.length_replicate,List.length_cons]at yh;omega);have aav:(4:Int)≤(n7:Int):=oQ;have Au:=uQ uy;clear uy yu hS6 xM))
   have hbody:List.replicate 4 0++ak.le (ak.size e) 4++[tb]++e.key++e.data=List.replicate 4 0++ak.body e:=by
    unfold ak.body
    rw [if_neg AQ.out,GV.out]
    simp only [List.append_assoc]
   obtain ⟨XX,IW,F9,BJ⟩:∃ XX:List aC,(∀ w' A,Sat w0 w' (A::XX)→Sat w0 w' (A::F))∧Ro w0 (aK (.slice (some ⟨b7,0,none⟩) n7 k7) (List.replicate 4 0++ak.body e)::XX) Half∧Sat w0 w7 (aK (.slice (some ⟨b7,0,none⟩) n7 k7) (List.replicate 4 0++ak.le (ak.size e) 4++[tb]++e.key++e.data)::XX):=
    ⟨_::_::F,fun w' A hw=>hw.sel 3 [0] rfl rfl,Ro.more (L:=[_,_,_]) HH.out,hS7⟩
   clear hS7
   have hS7:=BJ
   clear BJ
   rw [hbody]at hS7 Au
   have hbl:(ak.body e).length≤1099511627776:=by
    have h1:=HL.out;have h2:=Hk.out
    unfold ak.body
    simp only [List.length_append,ak.gW,List.length_cons,List.length_nil]
    split <;> simp <;> omega
   have Jd:n7=4+(ak.body e).length:=by rw [Au.out,List.length_append,List.length_replicate]
   have hrb:∀ w',Sat w0 w' (aK (.slice (some ⟨b7,0,none⟩) n7 k7) (List.replicate 4 0++ak.body e)::XX)→bK 1 (.slice (some ⟨b7,4,none⟩) (n7 - 4) (k7 - 4)) (ay (ak.body e)) w':=by
    intro w' hw'
    have h1:=Kz (lo:=4) (k:=n7 - 4) (Sat.rd hw') oQ (some ⟨b7,4,none⟩) (by rw [if_neg hk4];simp [pG]) yh (k7 - 4)
    have h2:((ay (List.replicate 4 0++ak.body e)).drop 4).take (n7 - 4)=ay (ak.body e):=by
     rw [jQ,List.drop_append_of_le_length (by simp [ay])]
     have:(ay (List.replicate 4 0)).drop 4=[]:=by simp [ay]
     rw [this,List.nil_append,List.take_of_length_le (by rw [aU];omega)]
    rw [h2]at h1
    exact h1
   have yg:=Ii (F:=aK (.slice (some ⟨b7,0,none⟩) n7 k7) (List.replicate 4 0++ak.body e)::XX) (ak.body e) F9 hrb hS7 hbl
   have lK:=uQ hbl
   clear hrb hbl Jd
   go_wp2_with fail
   refine yg.mono ?_
   rintro ee w8 ⟨v,rfl,rfl,rfl⟩
   clear yg
   have IZ:=ak.Ij (ak.body e)
   have BO:=CO (ak.crc (ak.body e)) oQ hS7
   have hwc:IntKind.u64.wrap (ak.crc (ak.body e):Int)=(ak.crc (ak.body e):Int):=by
    rw [show ∀ n:Int,IntKind.u64.wrap n=n%18446744073709551616 from fun n=>by simp [IntKind.wrap,IntKind.bits,IntKind.signed]]
    omega
   have Jl:(ak.crc (ak.body e):Int)%18446744073709551616=(ak.crc (ak.body e):Int):=by omega
   clear IZ
   go_wp2_with fail
   refine BO.mono ?_
   rintro ee w9 ⟨v,rfl,iT,pb,rfl⟩
   clear BO hwc Jl
   have Jh:bK 1 (.slice pb 4 4) (ay (ak.le (ak.crc (ak.body e)) 4)) w9:=Sat.rd iT
   go_wp2_with (refine Vq (w0:=w0) (x:=ak.le (ak.crc (ak.body e)) 4) ah _ _ ah b7 n7 k7 ah ah iT.aP Jh (by intro e0;have:=ak.gW (ak.crc (ak.body e)) 4;rw [e0]at this;cases this) (by rw [ak.gW,List.length_append,List.length_replicate];omega) ?_;intro w10 bP)
   go_ret2
   have hfin:ak.encode e=(ak.le (ak.crc (ak.body e)) 4++ak.body e,0):=by unfold ak.encode;rw [if_neg (by rw [Hc.out];simp)]
   rw [hfin]
   refine ⟨_,rfl,_,rfl,⟨_,_,_,rfl⟩,?_⟩
   have hdr:(List.replicate 4 (0:UInt8)++ak.body e).drop (ak.le (ak.crc (ak.body e)) 4).length=ak.body e:=by
    rw [ak.gW,List.drop_append_of_le_length (by simp)];simp
   rw [hdr]at bP
   exact IW _ _ (bP.sel 2 [0] rfl rfl)
 ·have Hf:=uQ (show ak.encode e=([],ak.check e) by unfold ak.encode;rw [if_pos hc])
  have hcb:(ak.check e==0)=false:=by simpa using hc
  clear hc
  generalize ak.check e=E at *
  go_wp2
  go_ret2
  rw [Hf.out]
  exact ⟨_,rfl,.slice none 0 0,rfl,⟨_,_,_,rfl⟩,Sat.fM.2 hS1.drop⟩
end
end Go.Proofs.YtlimfgdbfadohaaGreatDoor
namespace Go.Seg
abbrev Bs:=List UInt8
def iI (n:Nat):Nat→Bs
 |0=>[]
 |k+1=>iI (n / 10) k++[UInt8.ofNat (48+n%10)]
def lead:Bs:=[115,101,103,46]
def name (n:Int):ByteArray:=if n<0∨1048576≤n then ByteArray.empty else ⟨(lead++iI n.toNat 8).toArray⟩
theorem OG:∀ k,iI 0 k=List.replicate k 48
 |0=>rfl
 |k+1=>by
  show iI (0 / 10) k++[UInt8.ofNat (48+0%10)]=_
  rw [Nat.zero_div,OG k,List.replicate_succ',show UInt8.ofNat (48+0%10)=48 from rfl]
theorem zq (n k:Nat):(iI n k).length=k:=by
 induction k generalizing n with
 |zero=>rfl
 |succ k ih=>simp [iI,ih]
def lT (c:UInt8):Bool:=decide (48≤c.toNat) && decide (c.toNat≤57)
def val (b:Bs):Nat:=b.foldl (fun n c=>10 * n+(c.toNat - 48)) 0
theorem FU (b:Bs) (c:UInt8):val (b++[c])=10 * val b+(c.toNat - 48):=by unfold val;rw [List.foldl_append];rfl
theorem agG (k:Nat):∀ n,n<10^k→val (iI n k)=n:=by
 induction k with
 |zero=>intro n h;simp at h;subst h;rfl
 |succ k ih=>
  intro n h
  show val (iI (n / 10) k++[UInt8.ofNat (48+n%10)])=n
  rw [FU,ih (n / 10) (by rw [Nat.div_lt_iff_lt_mul oQ];rw [Nat.pow_succ]at h;exact h),UInt8.toNat_ofNat']
  omega
theorem OD (k:Nat):∀ n,(iI n k).all lT=true:=by
 induction k with
 |zero=>intro n;rfl
 |succ k ih=>
  intro n
  show (iI (n / 10) k++[UInt8.ofNat (48+n%10)]).all lT=true
  rw [List.all_append,ih,Bool.true_and]
  simp only [List.all_cons,List.all_nil,Bool.and_true,lT,UInt8.toNat_ofNat']
  rw [Bool.and_eq_true,decide_eq_true_eq,decide_eq_true_eq]
  omega
theorem YR (b:Bs) (h:b.all lT=true):iI (val b) b.length=b:=by
 rw [← List.reverse_reverse b]at *
 generalize b.reverse=r at *
 induction r with
 |nil=>rfl
 |cons c r ih=>
  rw [List.reverse_cons]at h ⊢
  rw [List.all_append,Bool.and_eq_true]at h
  have hc:lT c=true:=by simpa using h.2
  unfold lT at hc
  rw [Bool.and_eq_true,decide_eq_true_eq,decide_eq_true_eq]at hc
  rw [FU,List.length_append,List.length_singleton]
  show iI ((10 * val r.reverse+(c.toNat - 48)) / 10) r.reverse.length++[UInt8.ofNat (48+(10 * val r.reverse+(c.toNat - 48))%10)]=_
  have e1:(10 * val r.reverse+(c.toNat - 48)) / 10=val r.reverse:=by omega
  have e2:48+(10 * val r.reverse+(c.toNat - 48))%10=c.toNat:=by omega
  rw [e1,e2,ih h.1,UInt8.ofNat_toNat]
theorem agH (b:Bs) (h:b.all lT=true):val b<10^b.length:=by
 rw [← List.reverse_reverse b]at *
 generalize b.reverse=r at *
 induction r with
 |nil=>simp [val]
 |cons c r ih=>
  rw [List.reverse_cons]at h ⊢
  rw [List.all_append,Bool.and_eq_true]at h
  have hc:lT c=true:=by simpa using h.2
  unfold lT at hc
  rw [Bool.and_eq_true,decide_eq_true_eq,decide_eq_true_eq]at hc
  rw [FU,List.length_append,List.length_singleton,Nat.pow_succ]
  have:=ih h.1
  omega
def number (s:ByteArray):Int×Bool:=
 let l:=s.data.toList
 if l.length=12∧l.take 4=lead∧(l.drop 4).all lT=true∧val (l.drop 4)<1048576 then (val (l.drop 4),true) else (0,false)
end Go.Seg
