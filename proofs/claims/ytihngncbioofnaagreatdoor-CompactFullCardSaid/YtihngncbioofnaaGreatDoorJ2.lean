import Derived.Test.YtihngncbioofnaaGreatDoorJ1
import Derived.Sort.OwnSorted
import Derived.Laws.BitsAllLaws
import Derived.Laws.Strings
import Derived.Deep.Slices
import Derived.WalkKit
import Derived.ProofKit
import Derived.OpenShut
import Derived.ShutString
import Derived.ChangeOld
import Derived.Below
import Derived.ChangeKeysEq
import Derived.Laws.Rows
import Derived.Laws.OwnMore
import Derived.Laws.CopyOwn
set_option maxRecDepth 20000
namespace Go.Sl
open Go
theorem jT {α : Type} : (∀ (l : List α) (i : Nat) (h : i < l.toArray.size), l.toArray[i]'h = l[i]'(by simpa using h)) ∧ (∀ (x : α) (l : List α) (i : Nat) (h : i + 1 < (x :: l).length), (x :: l)[i + 1]'h = l[i]'(by simpa using h)) ∧ (∀ (x : α) (l : List α) (h : 0 < (x :: l).length), (x :: l)[0]'h = x) := ⟨fun _ _ h => List.getElem_toArray h, fun _ _ _ _ => rfl, fun _ _ _ => rfl⟩
section
variable {P : Program} {ops : Array Oper} {Q : Exit → Act → World → Prop} {late : List Nat} {G : World → Prop}
theorem wdQ {n : Nat} {l : Array Bool} {a : Act} {w : World} (h : Q .normal a w) (hr : Region.ready .any ops l = [] := by kernel_rfl) : jm P ops Q late G n l a w := dI hr h
theorem wpQ (i : Nat) {oi : Oper} {v : Value} {n : Nat} {l : Array Bool} {a : Act} {w : World} (hi : ops[i]? = some oi := by rfl) (hc : (Region.noSelect ops && Region.free .any ops l i && (Region.ready .any ops l).contains i && uX ops l) = true := by kernel_rfl) (hQ : ∀ c a w, Q (.panic c) (a.put oi.dst v) w → Q (.panic c) a w := by intro _ _ _ h; exact h) (hw : Region.wanted oi (yielded ops a.tmps) = true := by rfl) (hx : ∀ w, (execOp a.eval oi).run P w = .ok (.value v) w := by ((intro wq; go_simp); first | done | (with_reducible rfl))) (h : jm P ops Q late G n (l.setIfInBounds i true) (a.put oi.dst v) w) : jm P ops Q late G (n + 1) l a w := fO hi hc hQ (.inl ⟨hw, hx⟩) h
end
end Go.Sl
set_option linter.unusedVariables false
set_option maxHeartbeats 128000000
namespace Go.ay
structure bH.Ok (K:Nat) (f:bH):Prop where
 now:f.now=f.at f.waits.length
 cuts:∀ k c,f.waits[k]?=some c→c.cut=true→c.n≤(f.at k).length
 size:∀ k,k≤f.waits.length→(f.at k).length≤16777216
 budget:f.waits.length≤K
theorem bH.IK (f:bH) (c:jd) (k:Nat) (h:k≤f.waits.length):(f.do c).at k=f.at k:=by
 unfold bH.at bH.do;simp only;rw [ado h]
theorem bH.zM (f:bH) (k:Nat) (c:jd) (h:f.waits[k]?=some c):f.at (k+1)=c.on (f.at k):=by
 unfold bH.at;obtain ⟨hlt,rfl⟩:=abW.1 h;rw [agm hlt,aob]
 rfl
theorem bH.Va (f:bH) (c:jd) (hn:f.now=f.at f.waits.length):(f.do c).at (f.waits.length+1)=c.on f.now:=by
 rw [bH.zM _ _ c (by simp [bH.do]),bH.IK _ _ _ (abL _),hn]
theorem bH.Ok.uN {K:Nat}{f:bH} (h:f.Ok K):f.now.length≤16777216:=by
 rw [h.now];exact h.size _ (abL _)
theorem bH.Ok.mono {K K':Nat}{f:bH} (h:f.Ok K) (hk:K≤K'):f.Ok K':=⟨h.now,h.cuts,h.size,acz h.budget hk⟩
theorem bH.Ok.new (K:Nat):bH.new.Ok K:=⟨rfl,by simp [bH.new],by simp [bH.new,bH.at],by simp [bH.new]⟩
theorem bH.Ok.do {K:Nat}{f:bH} (h:f.Ok K) (c:jd) (h1:c.cut=true→c.n≤f.now.length) (h2:c.cut=false→f.now.length+c.b.length≤16777216):(f.do c).Ok (K+1):=by
 have hw:(f.do c).waits.length=f.waits.length+1:=by simp [bH.do]
 refine ⟨?_,?_,?_,by rw [hw];exact Nat.succ_le_succ h.budget⟩
 ·rw [hw,f.Va c h.now];rfl
 ·intro k c' hk hc;simp only [bH.do]at hk;rcases aoD k f.waits.length with hlt|rfl|hgt
  ·rw [ac2 hlt]at hk;rw [f.IK c k (Nat.le_of_lt hlt)];exact h.cuts k c' hk hc
  ·rw [ac0 (abL _),anm]at hk;simp at hk;subst hk;rw [f.IK c _ (abL _),← h.now];exact h1 hc
  ·rw [ac0 (Nat.le_of_lt hgt)]at hk;have:k - f.waits.length≠0:=by omega
   obtain ⟨j,hj⟩:∃ j,k - f.waits.length=j+1:=⟨k - f.waits.length - 1,by omega⟩;rw [hj]at hk;simp at hk
 ·intro k hk;rw [hw]at hk;rcases amB k (f.waits.length+1) with hlt|hge
  ·rw [f.IK c k oQ];exact h.size k oQ
  ·obtain rfl:k=f.waits.length+1:=by omega
   rw [f.Va c h.now];unfold jd.on;cases hc:c.cut
   ·simpa using h2 hc
   ·simp;have:=h.uN;omega
theorem bH.Ok.sync {K:Nat}{f:bH} (h:f.Ok K):f.sync.Ok K:=
 ⟨rfl,by simp [bH.sync],(by simp only [bH.sync,bH.at];intro k _;simpa using h.uN),by simp [bH.sync]⟩
def nC (l:Names):Prop:=l.Pairwise fun a b=>lt a.1 b.1=true
theorem lt_trans {a b c:ByteArray} (h:lt a b=true) (k:lt b c=true):lt a c=true:=by
 simp only [lt,acF]at *;exact aoH h k
theorem lt_irrefl (a:ByteArray):lt a a=false:=by simp [lt,aoc]
theorem aii {a b:ByteArray} (h:a≠b):lt a b=true∨lt b a=true:=by
 simp only [lt,acF];by_cases h1:a.data.toList<b.data.toList
 ·exact .inl h1
 ·right;have h2:b.data.toList≤a.data.toList:=List.not_lt.1 h1;rcases List.le_iff_lt_or_eq.1 h2 with h3|h3
  ·exact h3
  ·exfalso;apply h;obtain ⟨⟨x⟩⟩:=a;obtain ⟨⟨y⟩⟩:=b;simp at h3;subst h3;rfl
theorem nC.keys {l:Names} (h:nC l):(l.map (·.1)).Nodup:=by
 rw [List.nodup_iff_pairwise_ne,aij];refine h.imp fun {a b} hab e=>?_;rw [e,lt_irrefl]at hab;cases hab
theorem nC.del {l:Names} (h:nC l) (s:ByteArray):nC (gU l s):=h.sublist anZ
theorem nC.ins:∀ {l:Names},nC l→∀ {s:ByteArray} (i:Nat),(∀ p∈l,p.1≠s)→nC (rF l s i)
 |[],_,_,_,_=>List.pairwise_singleton _ _
 |p::l,h,s,i,hs=>by
  unfold rF;obtain ⟨h1,h2⟩:=aeA.1 h;split
  ·rename_i hlt;refine aeA.2 ⟨fun q hq=>?_,h⟩;rcases acK.1 hq with rfl|hq
   ·exact hlt
   ·exact lt_trans hlt (h1 q hq)
  ·rename_i hlt;have hps:lt p.1 s=true:=(aii (hs p (.head _))).resolve_right (by simpa using hlt);refine aeA.2 ⟨fun q hq=>?_,nC.ins h2 i (fun q hq=>hs q (.tail _ hq))⟩;have:=(PY l s i).mem_iff.1 hq;rcases acK.1 this with rfl|hq
   ·exact hps
   ·exact h1 q hq
theorem nC.put {l:Names} (h:nC l) (s:ByteArray) (i:Nat):nC (kC l s i):=(h.del s).ins i (air l s)
structure pF (n:Nat) (l:Names):Prop where
 mG:nC l
 len:l.length≤500
 ids:∀ p∈l,p.2<n
 ne:∀ p∈l,p.1≠ByteArray.empty
theorem pF.mono {n n':Nat}{l:Names} (h:pF n l) (hn:n≤n'):pF n' l:=⟨h.mG,h.len,fun p hp=>Nat.lt_of_lt_of_le (h.ids p hp) hn,h.ne⟩
theorem AV (l:Names) (s:ByteArray):(gU l s).length≤l.length:=agJ _ _
theorem pF.del {n:Nat}{l:Names} (h:pF n l) (s:ByteArray):pF n (gU l s):=
 ⟨h.mG.del s,acz (AV l s) h.len,fun p hp=>h.ids p (acY.1 hp).1,fun p hp=>h.ne p (acY.1 hp).1⟩
theorem P7 (l:Names) (s:ByteArray) (i:Nat):(kC l s i).length=(gU l s).length+1:=(wo l s i).length_eq
theorem pF.put {n:Nat}{l:Names} (h:pF n l) (s:ByteArray) (i:Nat) (hi:i<n) (hl:(gU l s).length<500) (hs:s≠ByteArray.empty):pF n (kC l s i):=by
 refine ⟨h.mG.put s i,by rw [P7];omega,fun p hp=>?_,fun p hp=>?_⟩;rotate_left
 ·rcases acK.1 ((wo l s i).mem_iff.1 hp) with rfl|hp
  ·exact hs
  ·exact h.ne p (acY.1 hp).1
 rcases acK.1 ((wo l s i).mem_iff.1 hp) with rfl|hp
 ·exact hi
 ·exact h.ids p (acY.1 hp).1
theorem ais {l:Names} (hs:nC l){s:ByteArray}{i:Nat} (h:bP l s=some i):(gU l s).length+1=l.length:=by
 have:=(PL hs.keys (jF h)).length_eq;simp at this;omega
structure ay.Ok (K:Nat) (m:ay):Prop where
 room:m.room≤16777216
 left:m.left≤9223372036854775807
 links:∀ x∈m.waits,x.to≠ByteArray.empty→x.f<m.files.length
 names:∀ k,k≤m.waits.length→pF m.files.length (m.mD k)
 now:m.now=m.mD m.waits.length
 files:∀ f∈m.files,f.Ok K
 budget:m.waits.length≤K
theorem ay.Ok.gG {K:Nat}{m:ay} (h:m.Ok K):pF m.files.length m.now:=by rw [h.now];exact h.names _ (abL _)
theorem ay.Ok.afR {K:Nat}{m:ay} (h:m.Ok K):pF m.files.length m.fast:=h.names 0 (acV _)
theorem ay.Ok.file {K:Nat}{m:ay} (h:m.Ok K) (i:Nat):(m.file i).Ok K:=by
 unfold ay.file;rcases amB i m.files.length with hi|hi
 ·rw [acG,aaI hi];exact h.files _ (aot hi)
 ·rw [acG,ahF hi];exact bH.Ok.new K
theorem ay.Ok.mono {K K':Nat}{m:ay} (h:m.Ok K) (hk:K≤K'):m.Ok K':=
 ⟨h.room,h.left,h.links,h.names,h.now,fun f hf=>(h.files f hf).mono hk,acz h.budget hk⟩
theorem ay.Ok.new (K room:Nat) (h:room≤16777216):(new room).Ok K:=
 ⟨h,by simp [ay.new],by simp [ay.new],(by intro k _;simp [ay.new,ay.mD];exact ⟨List.Pairwise.nil,by simp,by simp,by simp⟩),by simp [ay.new,ay.mD],by simp [ay.new],by simp [ay.new]⟩
theorem ay.Ok.step {K:Nat}{m:ay} (h:m.Ok K):m.step.1.Ok K:=by
 unfold ay.step;split
 ·split
  ·exact ⟨h.room,h.left,h.links,h.names,h.now,h.files,h.budget⟩
  ·exact ⟨h.room,acz (Nat.sub_le _ _) h.left,h.links,h.names,h.now,h.files,h.budget⟩
 ·exact h
theorem ay.jL (m:ay):m.step.1.room=m.room∧m.step.1.fast=m.fast∧m.step.1.now=m.now∧m.step.1.files=m.files∧m.step.1.waits=m.waits:=by
 unfold ay.step;split
 ·split <;> exact ⟨rfl,rfl,rfl,rfl,rfl⟩
 ·exact ⟨rfl,rfl,rfl,rfl,rfl⟩
theorem ay.ahX (m:ay) (x:iT) (k:Nat) (h:k≤m.waits.length):(m.link x).mD k=m.mD k:=by
 unfold ay.mD ay.link;simp only;rw [ado h]
theorem ay.YF (m:ay) (x:iT) (h:m.now=m.mD m.waits.length):(m.link x).mD (m.waits.length+1)=x.on m.now:=by
 rw [h];unfold ay.mD ay.link;simp only;rw [acX (by simp),acX (abL _),aob]
 rfl
theorem ay.Ok.link {K:Nat}{m:ay} (h:m.Ok K) (x:iT) (hf:x.to≠ByteArray.empty→x.f<m.files.length) (hn:pF m.files.length (x.on m.now)):(m.link x).Ok (K+1):=by
 have hw:(m.link x).waits.length=m.waits.length+1:=by simp [ay.link]
 refine ⟨h.room,h.left,?_,?_,?_,fun f hf=>(h.files f hf).mono (ahD _),by rw [hw];exact Nat.succ_le_succ h.budget⟩
 ·intro y hy;simp only [ay.link,ac3,acO]at hy;rcases hy with hy|rfl
  ·exact h.links y hy
  ·exact hf
 ·intro k hk;rw [hw]at hk;rcases amB k (m.waits.length+1) with hlt|hge
  ·rw [m.ahX x k oQ];exact h.names k oQ
  ·obtain rfl:k=m.waits.length+1:=by omega
   rw [m.YF x h.now];exact hn
 ·rw [hw,m.YF x h.now];rfl
theorem ay.Ok.iU {K:Nat}{m:ay} (h:m.Ok K) (i:Nat) (f:bH) (hf:f.Ok (K+1)):(m.iU i f).Ok (K+1):=by
 have hl:(m.iU i f).files.length=m.files.length:=by simp [ay.iU]
 refine ⟨h.room,h.left,(by rw [hl];exact h.links),(by rw [hl];exact h.names),h.now,?_,Nat.le_succ_of_le h.budget⟩;intro g hg;rcases anj hg with hg|rfl
 ·exact (h.files g hg).mono (ahD _)
 ·exact hf
theorem ay.Ok.aiv {K:Nat}{m:ay} (h:m.Ok K):({ m with files:=m.files++[bH.new] }:ay).Ok K:=by
 have hl:(m.files++[bH.new]).length=m.files.length+1:=by simp
 refine ⟨h.room,h.left,fun x hx ht=>(by have:=h.links x hx ht;simp only [hl];omega),fun k hk=>(h.names k hk).mono (by simp),h.now,?_,h.budget⟩;intro f hf;rcases ac3.1 hf with hf|hf
 ·exact h.files f hf
 ·rw [acO.1 hf];exact bH.Ok.new K
theorem qP {s:ByteArray} (h:good s=true):s≠ByteArray.empty:=by
 intro e;subst e;simp [good]at h
theorem ay.Ok.create {K:Nat}{m:ay} (h:m.Ok K) (s:ByteArray):(m.create s).1.Ok (K+1):=by
 unfold ay.create;have h':=h.mono (ahD K);split;· exact h'
 split;· exact h'
 rename_i hg;split;· exact h'
 rename_i hn;split;· exact h'
 rename_i hl;split;· exact h'.step
 have hst:=h.step;obtain ⟨e1,e2,e3,e4,e5⟩:=m.jL;have hg':good s=true:=by simpa using hg
 have hn':bP m.now s=none:=by simpa using hn
 have h1:=hst.aiv;rw [e4]at h1;refine h1.link _ (fun _=>by simp) ?_;show pF _ (iT.on _ m.step.1.now);rw [e3];unfold iT.on;simp only [anJ,abA (qP hg')];exact (h.gG.mono (by simp)).put s _ (by simp) (by rw [yC hn'];omega) (qP hg')
theorem YI:∀ (l:List Nat) (n:Nat),n∈l→n≤l.sum
 |[],_,h=>by cases h
 |x::l,n,h=>by
  rcases acK.1 h with rfl|h
  ·simp
  ·have:=YI l n h;simp;omega
theorem ay.Ok.append {K:Nat}{m:ay} (h:m.Ok K) (s:ByteArray) (b:Bs):(m.append s b).1.Ok (K+1):=by
 unfold ay.append;have h':=h.mono (ahD K);split;· exact h'
 split;· exact h'
 rename_i i hi;split;· exact h'
 rename_i hroom;split;· exact h'.step
 refine h.step.iU _ _ ((h.file i).do _ (by simp) ?_);intro _;have hu:(m.file i).now.length≤m.used:=by
  unfold ay.used;have:(s,i)∈m.now:=jF hi;exact YI _ _ (abZ.2 ⟨(s,i),this,rfl⟩)
 have:=h.room;simp only;omega
theorem ay.Ok.rename {K:Nat}{m:ay} (h:m.Ok K) (s t:ByteArray):(m.rename s t).1.Ok (K+1):=by
 unfold ay.rename;have h':=h.mono (ahD K);split;· exact h'
 split;· exact h'
 rename_i i hi;split;· exact h'
 rename_i hg;split;· exact h'.step
 obtain ⟨e1,e2,e3,e4,e5⟩:=m.jL;have hg':good t=true:=by simpa using hg
 have hid:i<m.files.length:=h.gG.ids _ (jF hi);refine h.step.link _ (fun _=>by rw [e4];exact hid) ?_;rw [e3,e4];unfold iT.on;simp only [abA (qP hg')];have hd:=ais h.gG.mG hi;have hl:=h.gG.len;have hs:s≠ByteArray.empty:=h.gG.ne _ (jF hi);rw [abA hs];refine (h.gG.del s).put t i hid ?_ (qP hg');have:=AV (gU m.now s) t;omega
theorem ay.Ok.remove {K:Nat}{m:ay} (h:m.Ok K) (s:ByteArray):(m.remove s).1.Ok (K+1):=by
 unfold ay.remove;have h':=h.mono (ahD K);split;· exact h'
 split;· exact h'
 rename_i i hi;split;· exact h'.step
 obtain ⟨e1,e2,e3,e4,e5⟩:=m.jL;refine h.step.link _ (fun hh=>absurd rfl hh) ?_;rw [e3,e4];unfold iT.on;have hs:s≠ByteArray.empty:=h.gG.ne _ (jF hi);simp only [anJ,abA hs];exact h.gG.del s
theorem ay.Ok.sync {K:Nat}{m:ay} (h:m.Ok K) (s:ByteArray):(m.sync s).1.Ok (K+1):=by
 unfold ay.sync;have h':=h.mono (ahD K);split;· exact h'
 split;· exact h'
 rename_i i hi;split;· exact h'.step
 exact h.step.iU _ _ ((h.file i).sync.mono (ahD _))
theorem ay.Ok.dR {K:Nat}{m:ay} (h:m.Ok K):m.dR.1.Ok K:=by
 unfold ay.dR;split;· exact h
 split;· exact h.step
 obtain ⟨e1,e2,e3,e4,e5⟩:=m.jL;have hs:=h.step;refine ⟨hs.room,hs.left,by simp,?_,?_,hs.files,by simp⟩
 ·intro k _;show pF _ _;simp only [ay.mD,List.take_nil,List.foldl_nil];rw [e4];exact h.gG
 ·simp only [ay.mD,List.take_nil,List.foldl_nil];exact e3
theorem ay.Ok.jR {K:Nat}{m:ay} (h:m.Ok K) (n:Int):(m.jR n).1.Ok K:=by
 unfold ay.jR;split;· exact h
 split;· exact h
 exact ⟨by simp only;omega,h.left,h.links,h.names,h.now,h.files,h.budget⟩
theorem alZ (l:List Nat) (b:Nat) (h:∀ x∈l,x≤b):l.sum≤l.length * b:=by
 induction l with
 |nil=>simp
 |cons x l ih=>
  have h1:=h x (.head _);have h2:=ih fun y hy=>h y (.tail _ hy);simp only [aor,ac5,ak4];omega
theorem ay.Ok.SE {K:Nat}{m:ay} (h:m.Ok K):m.used≤8388608000:=by
 unfold ay.used
 have h1:=alZ (m.now.map fun p=>(m.file p.2).now.length) 16777216 (by
  intro x hx;obtain ⟨p,_,rfl⟩:=abZ.1 hx;exact (h.file p.2).uN)
 have:=h.gG.len;rw [abl]at h1;have:=afx 16777216 this;omega
end Go.ay
namespace Go.Proofs.YtihngncbioofnaaGreatDoor
open Go Go.Sl Go.ay Go.MapKept Go.RowKit
section
variable {w0 w:World}{F:List aH}{m fb nb b r:Nat}{M:ay}{bs:List Nat}{wv v bv:Value}{s:ByteArray}{l:Names}{fs:List bH}
theorem Jd (h:Sat w0 w (nS bs fs::F)) (hl:bs.length=fs.length){i:Nat} (hi:i<fs.length) :
  ∃ fa fn fc na nc wv,w.cell? ⟨bs.getD i 0,0,none⟩=some (.slice fa fn fc)∧w.cell? ⟨bs.getD i 0,1,none⟩=some (.slice na (fs.getD i bH.new).now.length nc)∧w.cell? ⟨bs.getD i 0,2,none⟩=some wv ∧
   bG 1 (.slice na (fs.getD i bH.new).now.length nc) (aA (fs.getD i bH.new).now) w∧(fs.getD i bH.new).now.length≤nc∧nc≤9223372036854775807∧(na=none∧nc=0∨∃ g,na=some ⟨g,0,none⟩):=by
 obtain ⟨G,h1,_⟩:=NZ bs fs i hl hi;rw [h1]at h;obtain ⟨fv,nv,wv,ws,hws,h⟩:=kG.open (Sat.star.1 h);obtain ⟨fa,fn,fc,rfl,_⟩:=(h.sel 2 [1] rfl rfl).rd;have hN:=h.sel 3 [2] rfl rfl;have hr:=hN.rd;rcases Sat.kP hN with ⟨rfl,hx,_⟩|⟨g,n,cap,cs,rfl,hx,h1,_,h3,_,_⟩
 ·have hx0:(fs.getD i bH.new).now.length=0:=by rw [← aX];exact adu List.length hx
  rw [hx0];exact ⟨fa,fn,fc,none,0,wv,h.cellAt 0 _ rfl,h.cellAt 1 _ rfl,h.cellAt 2 _ rfl,hr,abL _,by omega,.inl ⟨rfl,rfl⟩⟩
 ·rw [aX,adb]at hx;subst hx;exact ⟨fa,fn,fc,_,cap,wv,h.cellAt 0 _ rfl,h.cellAt 1 _ rfl,h.cellAt 2 _ rfl,hr,h1,h3,.inr ⟨g,rfl⟩⟩
theorem PG {todo:Names}{k v:Value}{left:List (Value×Value)} (h:(dX bs todo).Perm ((k,v)::left)) :
  ∃ p todo',todo.Perm (p::todo')∧k = .string p.1∧v=ptr (bs.getD p.2 0)∧left.Perm (dX bs todo'):=by
 have hm:(k,v)∈dX bs todo:=h.mem_iff.2 (.head _);obtain ⟨p,hp,e⟩:=abZ.1 hm;simp only [Prod.mk.injEq]at e;obtain ⟨t1,t2,rfl⟩:=List.append_of_mem hp;have h1:(t1++p::t2).Perm (p::(t1++t2)):=anV;refine ⟨p,t1++t2,h1,e.1.symm,e.2.symm,?_⟩;have h2:((k,v)::left).Perm ((k,v)::dX bs (t1++t2)):=by
  refine h.symm.trans ((JC h1).trans ?_);show List.Perm ((Value.string p.1,ptr (bs.getD p.2 0))::dX bs (t1++t2)) _;rw [e.1,e.2]
 exact (List.Perm.cons_inv h2)
def sumOf (M:ay) (l:Names):Nat:=(l.map fun p=>(M.file p.2).now.length).sum
theorem alY {l l':Names} (h:l.Perm l'):sumOf M l=sumOf M l':=(h.map _).sum_nat
abbrev abR (m:Nat) (M:ay) (fb nb:Nat) (wv:Value) (bs:List Nat) (F:List aH):List aH:=nI m M fb nb wv::omap .string nb (dX bs M.now)::nS bs M.files::F
theorem abS (h:Sat w0 w (abR m M fb nb wv bs F)) (hl:bs.length=M.files.length) (hid:∀ p∈M.now,p.2<M.files.length) (hu:M.used≤9223372036854775807) :
  Calls Tryz.prog 24 #[ptr m] w (aP fun v w'=>v = .int .i64 M.qF∧Sat w0 w' (abR m M fb nb wv bs F)):=by
 have hd:=xJ h;have c2:=h.cellAt 2 _ rfl;cases ho:M.off
 ·rw [ho]at hd;have Hu:Hid (M.qF=M.used):=by show _=_;unfold ay.qF;rw [ho];rfl
  clear ho;go_enter Tryz.func24,Tryz.ntmps24
  go_wp2_with (first
   |(go_at_call 63;refine hd.mono ?_;rintro e w1 ⟨v,rfl,rfl,rfl⟩)
   |(at_range;go_must (refine Td aj _ _ _ _ aj Tryz.underlying123 aj h.aY ?_);intro r w1 hS))
  go_frame
  go_loopg [3] M.now.length (fun g n wr=>∃ (acc:Nat) (todo:Names) (left:List (Value×Value)),n = .int .i64 acc∧g=todo.length∧left.Perm (dX bs todo)∧(∀ p∈todo,p∈M.now)∧acc+sumOf M todo=M.used ∧
   Sat w0 wr (rng .string nb r (dX bs M.now) left::nI m M fb nb wv::nS bs M.files::F))
  case atStart=>exact ⟨0,M.now,_,rfl,rfl,anr _,fun _ h=>h,by simp [ay.used,sumOf],hS⟩
  case round=>
   obtain ⟨acc,todo,left,rfl,rfl,hleft,hsub,hacc,hS⟩:=hrel;have LP:=uQ hacc;have zD:=uQ hsub;have hb:acc≤M.used:=by omega
   clear hacc hsub
   go_wp2_with (first
    |(at_next;go_must (refine Tc aj _ aj aj hS ?_ ?_)))
   ·intro hnil;have Eo:=uQ hnil;clear hnil;go_wp2;go_ret;refine ⟨.int .i64 acc,rfl,?_,?_⟩
    ·have h0:todo=[]:=by
      have:=hleft;rw [Eo.out]at this;simpa [dX] using this.symm
     subst h0;have:=LP.out;simp only [sumOf,adw,List.sum_nil,aif]at this;rw [Hu.out,this]
    ·exact (hS.QA).aY
   ·intro k v left' w1 hp hS1 hen;obtain ⟨p,todo',hp',rfl,rfl,hl'⟩:=PG (hleft.symm.trans hp);have hpi:p.2<M.files.length:=hid p (zD.out p (hp'.mem_iff.2 (.head _)));obtain ⟨fa,fn,fc,na,nc,wv',f0,f1,f2,_,_,_,hna⟩:=Jd (hS1.sel 3 [2] rfl rfl) hl hpi;have hsum:Hid (sumOf M todo=(M.file p.2).now.length+sumOf M todo'):=by
     show _=_;rw [alY hp'];simp [sumOf]
    have hb2:acc+(M.file p.2).now.length≤M.used:=by
     have h1:=LP.out;have h2:=hsum.out;omega
    have Hp:=uQ hp';have Hl:=uQ hl';clear hp hp' hl' hleft;clear hna;change w1.cell? ⟨bs.getD p.2 0,1,none⟩=some (.slice na (M.file p.2).now.length nc) at f1;generalize bs.getD p.2 0=q at *
    generalize hL:(M.file p.2).now.length=L at *
    have HL:=uQ hL;clear hL;go_wp2
    go_roundg todo'.length
    case measure=>have:=Hp.out.length_eq;simp at this;omega
    case rel=>
     refine ⟨acc+L,todo',left',by go_num,rfl,Hl.out,fun x hx=>zD.out x (Hp.out.mem_iff.2 (.tail _ hx)),?_,hS1⟩;have h1:=LP.out;have h2:=hsum.out;omega
 ·rw [ho]at hd;have Hu:Hid (M.qF=0):=by show _=_;unfold ay.qF;rw [ho];rfl
  clear ho;go_enter Tryz.func24,Tryz.ntmps24;go_wp2_with (go_at_call 63;refine hd.mono ?_;rintro e w1 ⟨v,rfl,rfl,rfl⟩);go_ret;exact ⟨.int .i64 0,rfl,by rw [Hu.out];rfl,h⟩
end
section
variable {w0 w:World}{F:List aH}{m fb nb b r:Nat}{M:ay}{bs:List Nat}{wv v bv:Value}{s:ByteArray}{l:Names}{fs:List bH}
open Go.Sort in
theorem sort_c (ss:List (List UInt8)) (h:Sat w0 w (aB 9 1 v (ss.map encStr)::F)) (hsz:ss.length<4611686018427387904) :
  Calls Tryz.prog 117 #[v] w (aP fun _ w'=>Sat w0 w' (aB 9 1 v ((ss.mergeSort fun x y=>decide (x≤y)).map encStr)::F)):=by
 rcases h.kP with ⟨rfl,hn,h'⟩|⟨g,n,cap,cs,rfl,hl,hn,hc,hcm,htk,hp⟩
 ·have hn':ss=[]:=by simpa using hn
  subst hn';refine (Tryz.slices_Sort_string_none none 0 w).mono ?_;rintro e w1 ⟨rfl,rfl⟩;exact ⟨_,rfl,by simpa using h⟩
 ·have hl':n=ss.length:=by simpa using hl.symm
  subst hl';rw [adb]at htk;refine (Tryz.slices_Sort_string g 0 cap ss w (holds_of_block hp.at htk) hp.lt hsz).mono ?_;rintro e w1 ⟨rfl,n,os,rfl⟩;refine ⟨_,rfl,?_⟩;have hg:=grownBy_sorted (w:=w) (g:=g) (n:=n) (os:=os) (ss.mergeSort fun x y=>decide (x≤y)).toArray;have:=hp.turn hg.os hg.tape hg.output hg.size (heap_sorted (n:=n) (os:=os) (ss.mergeSort fun x y=>decide (x≤y)).toArray hp.at) (fun i hi hlt=>hg.block i hlt (by simpa using hi));refine this.kR (by simp) hn (by simpa [Sort.putCells] using hc) hcm ?_;have h1:=take_putCells cs (ss.mergeSort fun x y=>decide (x≤y)) (by rw [List.length_mergeSort];omega);rw [List.length_mergeSort]at h1;rw [adb];exact h1
theorem Wq (s:ByteArray):encStr s.data.toList = .string s:=by simp [encStr]
theorem alK {l:Names} (hs:nC l){ks:List ByteArray} (hp:ks.Perm (l.map (·.1))) :
  ((ks.map fun s=>s.data.toList).mergeSort fun x y=>decide (x≤y)).map encStr=l.map fun p=> .string p.1:=by
 have h1:((ks.map fun s=>s.data.toList).mergeSort fun x y=>decide (x≤y))=l.map fun p=>p.1.data.toList:=by
  refine List.Perm.eq_of_pairwise (le:=fun x y=>decide (x≤y)=true) ?_ ?_ ?_ ?_
  ·intro a b _ _ h1 h2;simp only [acF]at h1 h2;exact List.le_antisymm h1 h2
  ·refine List.pairwise_mergeSort ?_ ?_ _
   ·intro a b c h1 h2;simp only [acF]at *
    exact List.le_trans h1 h2
   ·intro a b;simp only [Bool.or_eq_true,acF];exact List.le_total a b
  ·rw [aij];refine hs.imp fun {a b} hab=>?_;simp only [lt,acF]at hab ⊢;exact List.le_of_lt hab
  ·refine (List.mergeSort_perm _ _).trans ?_;have:=hp.map fun s:ByteArray=>s.data.toList;rw [aee]at this;exact this
 rw [h1,aee];apply amJ;intro p _;exact Wq p.1
theorem ahx:(Tryz.prog.info? 9).map (fun i=>(i.zero,i.size,i.bytes))=some (some (.string ByteArray.empty),1,16):=by kernel_rfl
def strs (l:List ByteArray):List Value:=l.map Value.string
theorem alW (l:List ByteArray):strs l=(l.map fun s=>s.data.toList).map encStr:=by
 unfold strs;rw [aee];apply amJ;intro s _;exact (Wq s).symm
theorem aip (h:Sat w0 w (omap .string b (dX bs l)::F)) (hs:nC l) (hl:l.length≤1099511627776) :
  Calls Tryz.prog 67 #[.map (some b)] w (aP fun v w'=>Sat w0 w' (aB 9 1 v (strs (l.map (·.1)))::omap .string b (dX bs l)::F)∧∃ a n c,v = .slice a n c):=by
 obtain ⟨i,hi,hz0,hz1,hz2⟩:=info_parts ahx;have Hs:=uQ hs;clear hs;go_enter Tryz.func67,Tryz.ntmps67;go_wp2_with (at_range;go_must (refine Td aj _ _ _ _ aj Tryz.underlying123 aj h ?_);intro r w1 hS)
 go_frame
 go_loopg [3] l.length (fun g n wr=>∃ (ks:List ByteArray) (todo:Names) (left:List (Value×Value)),g=todo.length∧left.Perm (dX bs todo)∧(ks++todo.map (·.1)).Perm (l.map (·.1)) ∧
   Sat w0 wr (aB 9 1 n (strs ks)::rng .string b r (dX bs l) left::F))
 case atStart=>exact ⟨[],l,_,rfl,anr _,anr _,by unfold strs;exact Sat.gI.2 hS⟩
 case round=>
  obtain ⟨ks,todo,left,rfl,hleft,hperm,hS⟩:=hrel;have hlen:ks.length+todo.length=l.length:=by have:=hperm.length_eq;simpa using this
  obtain ⟨oa,on,oc,rfl,hoc,_⟩:=hS.rd;clear hoc;have Ej:=uQ hleft;have BZ:=uQ hperm;clear hleft hperm;go_wp2_with (at_next;go_must (refine Tc aj _ aj aj hS.aY ?_ ?_))
  ·intro hnil;have Eo:=uQ hnil;clear hnil;have h0:todo=[]:=by
    have:=Ej.out;rw [Eo.out]at this;simpa [dX] using this.symm
   subst h0;have hk:ks.Perm (l.map (·.1)):=by simpa using BZ.out
   have hsort:=sort_c (ks.map fun s=>s.data.toList) (by rw [← alW];exact hS) (by simp at hlen ⊢;omega);rw [alK Hs.out hk]at hsort;have Hk:=uQ hk;clear hk;go_wp2_with (go_at_call 117;refine hsort.mono ?_;rintro e w2 ⟨v,rfl,hS2⟩);go_ret;refine ⟨_,rfl,?_,_,_,_,rfl⟩;have h9:=(hS2.aY.QA).aY;have e1:strs (l.map (·.1))=l.map fun p=>Value.string p.1:=by unfold strs;rw [aee];rfl
   rw [e1];exact h9
  ·intro k v left' w1 hp hS1 hen;obtain ⟨p,todo',hp',rfl,rfl,hl'⟩:=PG (Ej.out.symm.trans hp);have hlen2:todo.length=todo'.length+1:=by have:=hp'.length_eq;simpa using this
   have Hp:=uQ hp';have Hl:=uQ hl';clear hp hp' hl';have hb1:=hS1.aY.alloc (.cells #[.string p.1] 9);have h63:(strs ks).length+1≤maxLen:=by unfold strs maxLen;rw [abl];omega
   have hby:((strs ks).length+1) * i.bytes≤140737488355328:=by unfold strs;rw [abl,hz2];omega
   have hoc:∀ u∈(#[.string p.1]:Array Value).toList,u.oneCell'=true:=by
    intro u hu;simp only [acK,ag0,aoj]at hu;subst hu;rfl
   go_wp2_with (at_builtin;go_must (refine y7 (w0:=w0) aj _ _ _ aj _ i _ Tryz.underlying135 hi hz0 hz1 aj oQ aj aj hoc hb1.aY (Bl _ _ _ 1 1 1 aj) h63 hby ?_);intro v2 w2 hS2 hne)
   go_roundg todo'.length
   case measure=>omega
   case rel=>
    refine ⟨ks++[p.1],todo',left',rfl,Hl.out,?_,?_⟩
    ·refine List.Perm.trans ?_ BZ.out;rw [acD];exact List.Perm.append_left ks (show List.Perm ((p::todo').map (·.1)) _ from (Hp.out.map (·.1)).symm)
    ·have:strs (ks++[p.1])=strs ks++[.string p.1]:=by simp [strs]
     rw [this];exact hS2.sel 3 [0,2] rfl rfl
theorem aeW (h:Sat w0 w (omap .string b (dX bs l)::F)) :
  Calls Tryz.prog 65 #[.map (some b)] w (aP fun v w'=>∃ b',v = .map (some b')∧Sat w0 w' (omap .string b' (dX bs l)::omap .string b (dX bs l)::F)):=by
 have hn:=PE h;have hmm:=@run_makeMap Tryz.prog;have h0:=h.F7 .string;have Hn:=uQ hn;clear hn;go_enter Tryz.func65,Tryz.ntmps65;go_wp2_with (at_range;go_must (refine Td aj _ _ _ _ aj Tryz.underlying123 aj h0.aY ?_);intro r w1 hS)
 go_frame
 generalize w.heap.size=b' at *
 go_loopg [4,5] l.length (fun g _ _ wr=>∃ (done todo:Names) (left:List (Value×Value)),g=todo.length∧left.Perm (dX bs todo)∧(done++todo).Perm l ∧
   Sat w0 wr (omap .string b' (dX bs done)::rng .string b r (dX bs l) left::F))
 case atStart=>exact ⟨[],l,_,rfl,anr _,anr _,hS.aY⟩
 case round=>
  obtain ⟨done,todo,left,rfl,hleft,hperm,hS⟩:=hrel;have Ej:=uQ hleft;have BZ:=uQ hperm;clear hleft hperm;go_wp2_with (at_next;go_must (refine Tc aj _ aj aj hS.aY ?_ ?_))
  ·intro hnil;have Eo:=uQ hnil;clear hnil;have h0:todo=[]:=by
    have:=Ej.out;rw [Eo.out]at this;simpa [dX] using this.symm
   subst h0;have hk:done.Perm l:=by simpa using BZ.out
   have Hk:=uQ hk;clear hk;go_wp2;go_ret;refine ⟨_,rfl,b',rfl,?_⟩;exact ((hS.aY.QA).aY).F8 (JC Hk.out)
  ·intro k v left' w1 hp hS1 hen;obtain ⟨p,todo',hp',rfl,rfl,hl'⟩:=PG (Ej.out.symm.trans hp);have hlen2:todo.length=todo'.length+1:=by have:=hp'.length_eq;simpa using this
   have hkey:∀ x∈dX bs done,x.1 ≠ .string p.1:=by
    intro x hx e;obtain ⟨q,hq,rfl⟩:=abZ.1 hx;simp only [Value.string.injEq]at e;have h1:=((BZ.out.map (·.1)).nodup_iff.2 Hn.out);rw [acI,List.nodup_append]at h1;exact h1.2.2 q.1 (abZ.2 ⟨q,hq,rfl⟩) p.1 (abZ.2 ⟨p,hp'.mem_iff.2 (.head _),rfl⟩) e
   have hside:(dX bs done).Perm (dX bs done)∧(∀ x∈dX bs done,x.1 ≠ .string p.1)∨∃ v0,(dX bs done).Perm ((.string p.1,v0)::dX bs done):= .inl ⟨anr _,hkey⟩;have MV:=uQ hside;clear hside hkey;have Hp:=uQ hp';have Hl:=uQ hl';clear hp hp' hl';generalize hq:ptr (bs.getD p.2 0)=q at *
   have Hq:=uQ hq;clear hq;go_wp2_with (at_mapUpdate;go_must (refine Lm (key:= .string p.1) aj _ _ _ aj Tryz.underlying123 Tryz.underlying9 aj aj aj trivial hS1.aY _ MV.out ?_);intro w2 hS2)
   go_roundg todo'.length
   case measure=>omega
   case rel=>
    refine ⟨p::done,todo',left',rfl,Hl.out,?_,?_⟩
    ·refine List.Perm.trans ?_ BZ.out;exact (anV.symm).trans (List.Perm.append_left done Hp.out.symm)
    ·show Sat w0 _ (omap .string b' ((.string p.1,ptr (bs.getD p.2 0))::dX bs done)::_);rw [Hq.out];exact hS2
end
section
variable {w0 w:World}{F:List aH}{m fb nb b r:Nat}{M:ay}{bs:List Nat}{wv v bv:Value}{s:ByteArray}{l:Names}{fs:List bH}{K:Nat}
theorem KE (hM:M.Ok K) (h:Sat w0 w (aJ m M::F)) (s:ByteArray) :
  Calls Tryz.prog 104 #[ptr m,.string s] w (aP fun v w'=>v = .tuple #[.int .i64 (M.size s).1,errno (M.size s).2]∧w=w'):=by
 obtain ⟨bs,fb,nb,wv,hl,hR⟩:=aJ.open h;cases ho:M.off
 ·cases hn:bP M.now s with
  |none=>
   have hf:=zW (s:=s) hR ho hn;have bF:Hid (M.size s=(0,9)):=by show _=_;simp [ay.size,ho,hn]
   clear ho hn;go_enter Tryz.func104,Tryz.ntmps104;go_wp2_with (go_at_call 90;refine hf.mono ?_;rintro e w1 ⟨v,rfl,rfl,rfl⟩)
   go_ret2
   exact ⟨_,rfl,by rw [bF.out];rfl,rfl⟩
  |some i=>
   have hf:=zY (s:=s) hR ho hn;have hid:i<M.files.length:=hM.gG.ids (s,i) (jF hn);obtain ⟨fa,fn,fc,na,nc,wv',f0,f1,f2,_,_,_,hna⟩:=Jd (hR.sel 3 [2] rfl rfl) hl hid;have bF:Hid (M.size s=(((M.file i).now.length:Int),0)):=by show _=_;simp [ay.size,ho,hn]
   clear ho hn hna;change w.cell? ⟨bs.getD i 0,1,none⟩=some (.slice na (M.file i).now.length nc) at f1;generalize bs.getD i 0=q at *
   go_enter Tryz.func104,Tryz.ntmps104;go_wp2_with (go_at_call 90;refine hf.mono ?_;rintro e w1 ⟨v,rfl,rfl,rfl⟩)
   go_ret2
   refine ⟨.tuple #[.int .i64 (M.file i).now.length,errno 0],rfl,?_,rfl⟩;rw [bF.out]
 ·have hf:=zX (s:=s) hR ho;have bF:Hid (M.size s=(0,12)):=by show _=_;simp [ay.size,ho]
  clear ho;go_enter Tryz.func104,Tryz.ntmps104;go_wp2_with (go_at_call 90;refine hf.mono ?_;rintro e w1 ⟨v,rfl,rfl,rfl⟩)
  go_ret2
  exact ⟨_,rfl,by rw [bF.out];rfl,rfl⟩
theorem adY (hM:M.Ok K) (h:Sat w0 w (aJ m M::F)) (s:ByteArray) :
  Calls Tryz.prog 47 #[ptr m,.string s] w (aP fun v w'=>∃ bv,v = .tuple #[bv,errno (M.all s).2]∧Sat w0 w' (bK bv (M.all s).1::aJ m M::F)):=by
 obtain ⟨bs,fb,nb,wv,hl,hR⟩:=aJ.open h;cases ho:M.off
 ·cases hn:bP M.now s with
  |none=>
   have hf:=zW (s:=s) hR ho hn;have bF:Hid (M.all s=([],9)):=by show _=_;simp [ay.all,ho,hn]
   clear ho hn;go_enter Tryz.func47,Tryz.ntmps47;go_wp2_with (go_at_call 90;refine hf.mono ?_;rintro e w1 ⟨v,rfl,rfl,rfl⟩)
   go_ret2
   exact ⟨_,rfl,.slice none 0 0,by rw [bF.out];rfl,by rw [bF.out];exact Sat.gI.2 h⟩
  |some i=>
   have hf:=zY (s:=s) hR ho hn;have hid:i<M.files.length:=hM.gG.ids (s,i) (jF hn);obtain ⟨fa,fn,fc,na,nc,wv',f0,f1,f2,hrd,hcap,hnc,hna⟩:=Jd (hR.sel 3 [2] rfl rfl) hl hid;have hcl:=zS h hrd (by have:=(hM.file i).uN;unfold ay.file at this;omega);have bF:Hid (M.all s=((M.file i).now,0)):=by show _=_;simp [ay.all,ho,hn]
   clear ho hn hrd hcap hnc hna;change w.cell? ⟨bs.getD i 0,1,none⟩=some (.slice na (M.file i).now.length nc) at f1;change Calls _ _ #[.slice na (M.file i).now.length nc] _ _ at hcl;generalize bs.getD i 0=q at *
   go_enter Tryz.func47,Tryz.ntmps47
   go_wp2_with (first
    |(go_at_call 90;refine hf.mono ?_;rintro e w1 ⟨v,rfl,rfl,rfl⟩)
    |(go_at_call 91;refine hcl.mono ?_;rintro e w1 ⟨v,rfl,hS,_⟩))
   go_ret2
   exact ⟨_,rfl,v,by rw [bF.out];rfl,by rw [bF.out];exact hS⟩
 ·have hf:=zX (s:=s) hR ho;have bF:Hid (M.all s=([],12)):=by show _=_;simp [ay.all,ho]
  clear ho;go_enter Tryz.func47,Tryz.ntmps47;go_wp2_with (go_at_call 90;refine hf.mono ?_;rintro e w1 ⟨v,rfl,rfl,rfl⟩)
  go_ret2
  exact ⟨_,rfl,.slice none 0 0,by rw [bF.out];rfl,by rw [bF.out];exact Sat.gI.2 h⟩
theorem Qr {a:Option Addr}{n c lo k:Nat}{xs:List Value} (h:bG 1 (.slice a n c) xs w) (hk:lo+k≤n) (x:Option Addr) (hx:x=if c=lo then a else a.map (·.add lo)) (hc:n≤c) (c':Nat):bG 1 (.slice x k c') ((xs.drop lo).take k) w:=by
 obtain ⟨a',n',c'',he,hl,hcell⟩:=h;cases he;rw [adb]at hl;refine ⟨x,k,c',rfl,by simp;omega,fun i y hi=>?_⟩;rw [adC]at hi;split at hi
 ·rename_i hik;rw [anQ]at hi;obtain ⟨b,hb,hy⟩:=hcell _ y hi;subst hb;have:¬ c=lo:=by omega
  rw [abA this]at hx;refine ⟨b.add lo,by simpa using hx,?_⟩;have:(b.add lo).add i=b.add (lo+i):=by
   unfold Addr.add;by_cases h1:lo=0
   ·subst h1;simp
   ·by_cases h2:i=0
    ·subst h2;simp
    ·simp [h1,h2];omega
  rw [this];exact hy
 ·cases hi
theorem ajL (hM:M.Ok K) (h:Sat w0 w (aJ m M::F)) (s:ByteArray) (at_ n:Int) (ha : -9223372036854775808≤at_∧at_≤9223372036854775807) (hn : -9223372036854775808≤n∧n≤9223372036854775807) :
  Calls Tryz.prog 149 #[ptr m,.string s,.int .i64 at_,.int .i64 n] w (aP fun v w'=>∃ bv,v = .tuple #[bv,errno (M.read s at_ n).2]∧Sat w0 w' (bK bv (M.read s at_ n).1::aJ m M::F)):=by
 obtain ⟨bs,fb,nb,wv,hl,hR⟩:=aJ.open h;obtain ⟨ha1,ha2⟩:=ha;obtain ⟨hn1,hn2⟩:=hn;cases ho:M.off
 ·cases hg:bP M.now s with
  |none=>
   have hf:=zW (s:=s) hR ho hg;have bF:Hid (M.read s at_ n=([],9)):=by show _=_;simp [ay.read,ho,hg]
   clear ho hg;go_enter Tryz.func149,Tryz.ntmps149;go_wp2_with (go_at_call 90;refine hf.mono ?_;rintro e w1 ⟨v,rfl,rfl,rfl⟩)
   go_ret2
   exact ⟨_,rfl,.slice none 0 0,by rw [bF.out];rfl,by rw [bF.out];exact Sat.gI.2 h⟩
  |some i=>
   have hf:=zY (s:=s) hR ho hg;have hid:i<M.files.length:=hM.gG.ids (s,i) (jF hg);obtain ⟨fa,fn,fc,na,nc,wv',f0,f1,f2,hrd,hcap,hnc,hna⟩:=Jd (hR.sel 3 [2] rfl rfl) hl hid;have hnl:=(hM.file i).uN;change w.cell? ⟨bs.getD i 0,1,none⟩=some (.slice na (M.file i).now.length nc) at f1;change bG 1 (.slice na (M.file i).now.length nc) (aA (M.file i).now) w at hrd;change (M.file i).now.length≤nc at hcap;generalize hL:(M.file i).now=L at *
   have HL:=uQ hL;clear hL;generalize bs.getD i 0=q at *
   have Hg:=uQ hg;have Ho:=uQ ho;clear hg ho;have hread:∀ x:Bs×Int,x=(if at_<0∨n<0 then ([],2) else if (L.length:Int)<at_∨(L.length:Int) - at_<n then ([],3) else ((L.drop at_.toNat).take n.toNat,0))→M.read s at_ n=x:=by
    rintro x rfl;simp only [ay.read,Ho.out,Hg.out,HL.out,afy,anY]
   have pz:=uQ hread;clear hread;by_cases h1:at_<0
   ·go_enter Tryz.func149,Tryz.ntmps149;go_wp2_with (go_at_call 90;refine hf.mono ?_;rintro e w1 ⟨v,rfl,rfl,rfl⟩)
    go_ret2
    have:=pz.out _ (acr (.inl h1)).symm;exact ⟨_,rfl,.slice none 0 0,by rw [this];rfl,by rw [this];exact Sat.gI.2 h⟩
   have h1':decide (at_<0)=false:=by simpa using h1
   by_cases h2:n<0
   ·go_enter Tryz.func149,Tryz.ntmps149;go_wp2_with (go_at_call 90;refine hf.mono ?_;rintro e w1 ⟨v,rfl,rfl,rfl⟩)
    go_ret2
    have:=pz.out _ (acr (.inr h2)).symm;exact ⟨_,rfl,.slice none 0 0,by rw [this];rfl,by rw [this];exact Sat.gI.2 h⟩
   have h2':decide (n<0)=false:=by simpa using h2
   obtain ⟨a,rfl⟩:=aom (show 0≤at_ by omega);obtain ⟨k,rfl⟩:=aom (show 0≤n by omega);have h12:¬ ((a:Int)<0∨(k:Int)<0):=by omega
   by_cases h3:(L.length:Int)<a
   ·go_enter Tryz.func149,Tryz.ntmps149;go_wp2_with (go_at_call 90;refine hf.mono ?_;rintro e w1 ⟨v,rfl,rfl,rfl⟩)
    go_ret2
    have:=pz.out _ ((abA h12).trans (acr (.inl h3))).symm;exact ⟨_,rfl,.slice none 0 0,by rw [this];rfl,by rw [this];exact Sat.gI.2 h⟩
   have h3':decide ((L.length:Int)<a)=false:=by simpa using h3
   by_cases h4:(L.length:Int) - a<k
   ·go_enter Tryz.func149,Tryz.ntmps149;go_wp2_with (go_at_call 90;refine hf.mono ?_;rintro e w1 ⟨v,rfl,rfl,rfl⟩)
    go_ret2
    have:=pz.out _ ((abA h12).trans (acr (.inr h4))).symm;exact ⟨_,rfl,.slice none 0 0,by rw [this];rfl,by rw [this];exact Sat.gI.2 h⟩
   have h4':decide ((L.length:Int) - a<k)=false:=by simpa using h4
   have xX:¬ ((L.length:Int)<a∨(L.length:Int) - a<k):=by omega
   have hfin:=pz.out _ ((abA h12).trans (abA xX)).symm;have bF:=uQ hfin;clear hfin;have hcl:∀ x,x=(if nc=a then na else na.map (·.add a))→Calls Tryz.prog 91 #[.slice x k (nc - a)] w (aP fun v' w'=>Sat w0 w' (bK v' ((L.drop a).take k)::aJ m M::F)∧∃ a n c,v' = .slice a n c):=by
    intro x hx;refine zS h ?_ (by simp;omega);have:=Qr (lo:=a) (k:=k) hrd oQ x hx hcap (nc - a);simpa [aA,anw,List.map_drop] using this
   have fP:=uQ hcl;clear hcl hrd;have e5:(a:Int)+k≤nc:=by omega
   rcases hna with ⟨rfl,rfl⟩|⟨g,rfl⟩
   ·obtain rfl:a=0:=by omega
    obtain rfl:k=0:=by omega
    have hcl:=fP.out none (by simp);simp only [anm]at hcl;clear pz fP;go_enter Tryz.func149,Tryz.ntmps149;go_wp2_with (first|(go_at_call 90;refine hf.mono ?_;rintro e w1 ⟨v,rfl,rfl,rfl⟩)|(go_at_call 91;go_must (refine hcl.mono ?_);rintro e w1 ⟨v,rfl,hS,_⟩))
    go_ret2
    exact ⟨_,rfl,v,by rw [bF.out];rfl,by rw [bF.out];exact hS⟩
   ·clear pz;by_cases hca:nc=a
    ·subst hca;obtain rfl:k=0:=by omega
     have hcl:=fP.out (some ⟨g,0,none⟩) (by simp);simp only [anm]at hcl;clear fP;go_enter Tryz.func149,Tryz.ntmps149;go_wp2_with (first|(go_at_call 90;refine hf.mono ?_;rintro e w1 ⟨v,rfl,rfl,rfl⟩)|(go_at_call 91;go_must (refine hcl.mono ?_);rintro e w1 ⟨v,rfl,hS,_⟩))
     go_ret2
     exact ⟨_,rfl,v,by rw [bF.out];rfl,by rw [bF.out];exact hS⟩
    ·have hcl:=fP.out (some ⟨g,a,none⟩) (by rw [abA hca];simp [qO]);clear fP;go_enter Tryz.func149,Tryz.ntmps149;go_wp2_with (first|(go_at_call 90;refine hf.mono ?_;rintro e w1 ⟨v,rfl,rfl,rfl⟩)|(go_at_call 91;go_must (refine hcl.mono ?_);rintro e w1 ⟨v,rfl,hS,_⟩))
     go_ret2
     exact ⟨_,rfl,v,by rw [bF.out];rfl,by rw [bF.out];exact hS⟩
 ·have hf:=zX (s:=s) hR ho;have bF:Hid (M.read s at_ n=([],12)):=by show _=_;simp [ay.read,ho]
  clear ho;go_enter Tryz.func149,Tryz.ntmps149;go_wp2_with (go_at_call 90;refine hf.mono ?_;rintro e w1 ⟨v,rfl,rfl,rfl⟩)
  go_ret2
  exact ⟨_,rfl,.slice none 0 0,by rw [bF.out];rfl,by rw [bF.out];exact Sat.gI.2 h⟩
end
section
variable {w0 w:World}{F:List aH}{m fb nb b r:Nat}{M:ay}{bs:List Nat}{wv v bv:Value}{s:ByteArray}{l:Names}{fs:List bH}{K:Nat}
theorem Zg (room:Nat) (hr:room≤16777216) (h:Sat w0 w F) :
  Calls Tryz.prog 51 #[.int .i64 room] w (aP fun v w'=>∃ m,v = .tuple #[ptr m,errno 0]∧Sat w0 w' (aJ m (ay.new room)::F)):=by
 have h2:decide ((room:Int)<0)=false:=by rw [adE];omega
 have h3:decide (16777216<(room:Int))=false:=by rw [adE];omega
 have hmm:=@run_makeMap Tryz.prog;have hA:=((h.F7 .string).F7 .string);have hB:=hA.alloc (.cells #[.int .i64 room,.map (some w.heap.size),.map (some (w.heap.size+1)),.slice none 0 0,.bool false,.int .i64 0,.bool false] 126);go_enter Tryz.func51,Tryz.ntmps51;go_wp2
 go_ret2
 refine ⟨_,rfl,_,rfl,?_⟩;refine aJ.shut (bs:=[]) (fb:=w.heap.size) (nb:=w.heap.size+1) (wv:= .slice none 0 0) rfl ?_;have h5:Sat w0 _ (aB 133 3 (.slice none 0 0) []::Sl.emp::_::_::_::F):=Sat.gI.2 (Sat.emp.2 hB);simp only [World.size_alloc]at h5;exact h5.sel 5 [2,3,1,4,0] rfl rfl
theorem JB (hM:M.Ok K) (h:Sat w0 w (aJ m M::F)) :
  Calls Tryz.prog 102 #[ptr m] w (aP fun v w'=>Sat w0 w' (aB 9 1 v (strs M.list)::aJ m M::F)∧∃ a n c,v = .slice a n c):=by
 obtain ⟨bs,fb,nb,wv,hl,hR⟩:=aJ.open h;have hd:=xJ hR;have c2:=hR.cellAt 2 _ rfl;cases ho:M.off
 ·rw [ho]at hd;have hnm:=aip (hR.sel 5 [1,0,2,3,4] rfl rfl) hM.gG.mG (by have:=hM.gG.len;omega);have bF:Hid (M.list=M.now.map (·.1)):=by show _=_;simp [ay.list,ho]
  clear ho;go_enter Tryz.func102,Tryz.ntmps102;go_wp2_with (first|(go_at_call 63;refine hd.mono ?_;rintro e w1 ⟨v,rfl,rfl,rfl⟩)|(go_at_call 67;go_must (refine hnm.mono ?_);rintro e w1 ⟨v,rfl,hS,a1,n1,k1,rfl⟩));go_ret;refine ⟨_,rfl,?_,_,_,_,rfl⟩;rw [bF.out];exact (aJ.shut hl (hS.sel 6 [2,1,3,4,5,0] rfl rfl)).aY
 ·rw [ho]at hd;have bF:Hid (M.list=[]):=by show _=_;simp [ay.list,ho]
  clear ho;go_enter Tryz.func102,Tryz.ntmps102;go_wp2_with (go_at_call 63;refine hd.mono ?_;rintro e w1 ⟨v,rfl,rfl,rfl⟩);go_ret;refine ⟨.slice none 0 0,rfl,?_,_,_,_,rfl⟩;rw [bF.out];exact Sat.gI.2 h
theorem amD (hM:M.Ok K) (h:Sat w0 w (aJ m M::F)) :
  Calls Tryz.prog 24 #[ptr m] w (aP fun v w'=>v = .int .i64 M.qF∧Sat w0 w' (aJ m M::F)):=by
 obtain ⟨bs,fb,nb,wv,hl,hR⟩:=aJ.open h;refine (abS hR hl hM.gG.ids (by have:=hM.SE;omega)).mono ?_;rintro e w1 ⟨v,rfl,rfl,hS⟩;exact ⟨_,rfl,rfl,aJ.shut hl hS⟩
theorem als (h:Sat w0 w (aJ m M::F)) (n:Int) :
  Calls Tryz.prog 23 #[ptr m,.int .i64 n] w (aP fun v w'=>v=errno (M.jR n).2∧Sat w0 w' (aJ m (M.jR n).1::F)):=by
 obtain ⟨bs,fb,nb,wv,hl,hR⟩:=aJ.open h;have hd:=xJ hR;have f0:=hR.oL 0;have c0:=hR.cellAt 0 _ rfl;cases ho:M.off
 ·rw [ho]at hd;by_cases h1:n<0
  ·have bF:Hid (M.jR n=(M,2)):=by show _=_;simp [ay.jR,ho,h1]
   clear ho;go_enter Tryz.func23,Tryz.ntmps23;go_wp2_with (go_at_call 63;refine hd.mono ?_;rintro e w1 ⟨v,rfl,rfl,rfl⟩);go_ret;exact ⟨errno 2,rfl,by rw [bF.out],by rw [bF.out];exact h⟩
  have h1':decide (n<0)=false:=by rw [adE];omega
  by_cases h2:16777216<n
  ·have bF:Hid (M.jR n=(M,2)):=by show _=_;simp [ay.jR,ho,h1,h2]
   clear ho;go_enter Tryz.func23,Tryz.ntmps23;go_wp2_with (go_at_call 63;refine hd.mono ?_;rintro e w1 ⟨v,rfl,rfl,rfl⟩);go_ret;exact ⟨errno 2,rfl,by rw [bF.out],by rw [bF.out];exact h⟩
  have h2':decide (16777216<n)=false:=by rw [adE];omega
  obtain ⟨n,rfl⟩:=aom (show 0≤n by omega);have bF:Hid (M.jR n=({ M with room:=n },0)):=by show _=_;simp [ay.jR,ho,h1,h2]
  clear ho;go_enter Tryz.func23,Tryz.ntmps23;go_wp2_with (go_at_call 63;refine hd.mono ?_;rintro e w1 ⟨v,rfl,rfl,rfl⟩);go_ret;refine ⟨errno 0,rfl,by rw [bF.out],?_⟩;rw [bF.out];refine aJ.shut (bs:=bs) (fb:=fb) (nb:=nb) (wv:=wv) hl ?_;exact hR.set 0 (.int .i64 n)
 ·rw [ho]at hd;have bF:Hid (M.jR n=(M,12)):=by show _=_;simp [ay.jR,ho]
  clear ho;go_enter Tryz.func23,Tryz.ntmps23;go_wp2_with (go_at_call 63;refine hd.mono ?_;rintro e w1 ⟨v,rfl,rfl,rfl⟩);go_ret;exact ⟨errno 12,rfl,by rw [bF.out],by rw [bF.out];exact h⟩
end
section
variable {w0 w:World}{F:List aH}{m fb nb b r:Nat}{M:ay}{bs:List Nat}{wv v bv:Value}{s:ByteArray}{l:Names}{fs:List bH}{K:Nat}
theorem Xe (bs:List Nat) (b i:Nat) (h:i<bs.length):(bs++[b]).getD i 0=bs.getD i 0:=by
 simp [acG,ac2 h]
theorem Y7 (h:∀ p∈l,p.2<bs.length) (b:Nat):dX (bs++[b]) l=dX bs l:=by
 unfold dX;apply amJ;intro p hp;rw [Xe bs b p.2 (h p hp)]
theorem ah8 {ws:List iT} (h:∀ x∈ws,x.to≠ByteArray.empty→x.f<bs.length) (b:Nat):ws.flatMap (mV (bs++[b]))=ws.flatMap (mV bs):=by
 induction ws with
 |nil=>rfl
 |cons x ws ih=>
  rw [ada,ada,ih fun y hy=>h y (.tail _ hy)]
  congr 1
  unfold mV;by_cases ht:x.to=ByteArray.empty
  ·simp [ht]
  ·simp only [abA ht];rw [Xe bs b x.f (h x (.head _) ht)]
theorem ah5 (h:Sat w0 w (omap .string b (dX bs l)::F)) (ty:TypeId):(Builtin.len_ #[123] ty #[.map (some b)]).run Tryz.prog w = .ok (.int .i64 l.length) w:=by
 have:=aaT (P:=Tryz.prog) Tryz.underlying123 ty h;simpa [dX] using this
theorem tJ (h:Sat w0 w (nI m M.step.1 fb nb wv::[omap .string nb (dX bs M.now),nS bs M.files,omap .string fb (dX bs M.fast),aB 133 3 wv (M.waits.flatMap (mV bs))]++F)):Sat w0 w (vK m M.step.1 bs fb nb wv++F):=by
 obtain ⟨e1,e2,e3,e4,e5⟩:=M.jL;unfold vK;rw [e2,e3,e4,e5];exact h
theorem acy (h:Sat w0 w (CB b (.slice none 0 0) (.slice none 0 0) (.slice none 0 0)::F)):Sat w0 w (kG b bH.new::F):=by
 refine kG.shut (fv:= .slice none 0 0) (nv:= .slice none 0 0) (wv:= .slice none 0 0) (ws:=[]) rfl ?_;have h1:Sat w0 w (bK (.slice none 0 0) []::bK (.slice none 0 0) []::aB 199 3 (.slice none 0 0) []::uD []::_):=Sat.gI.2 (Sat.gI.2 (Sat.gI.2 (Sat.emp.2 h)));exact h1.sel 5 [4,0,1,2,3] rfl rfl
theorem ae3 (hM:M.Ok K) (hK:K≤1099511627776) (hl:bs.length=M.files.length) (hs:s≠ByteArray.empty) (h:Sat w0 w (vK m M bs fb nb wv++F)) :
  Calls Tryz.prog 129 #[ptr m,.agg #[.string { data:=#[] },.string s,ptr w.heap.size]] (w.alloc (.cells #[.slice none 0 0,.slice none 0 0,.slice none 0 0] 130))
   (aP fun _ w'=>Sat w0 w' (aJ m (({ M with files:=M.files++[bH.new] }:ay).link ⟨ByteArray.empty,s,M.files.length⟩)::F)):=by
 have h1:=h.alloc (.cells #[.slice none 0 0,.slice none 0 0,.slice none 0 0] 130);have h2:=acy h1;generalize w.heap.size=q at *
 have e1:dX (bs++[q]) M.now=dX bs M.now:=Y7 (fun p hp=>by rw [hl];exact hM.gG.ids p hp) q;have e2:dX (bs++[q]) M.fast=dX bs M.fast:=Y7 (fun p hp=>by rw [hl];exact hM.afR.ids p hp) q;have e3:M.waits.flatMap (mV (bs++[q]))=M.waits.flatMap (mV bs):=ah8 (fun x hx ht=>by rw [hl];exact hM.links x hx ht) q;have e4:nS (bs++[q]) (M.files++[bH.new])=star (kG q bH.new) (nS bs M.files):=WG _ _ _ _ hl;have h3:Sat w0 _ (kG q bH.new::nS bs M.files::nI m M fb nb wv::omap .string nb (dX bs M.now)::aB 133 3 wv (M.waits.flatMap (mV bs))::omap .string fb (dX bs M.fast)::F):=h2.sel 6 [0,3,1,2,5,4] rfl rfl;have h4:=Sat.star.2 h3;rw [← e4,← e1,← e2,← e3]at h4;have h5:=h4.sel 5 [1,2,3,0,4] rfl rfl;have hlk:=YM (M:={ M with files:=M.files++[bH.new] }) (bs:=bs++[q]) ⟨ByteArray.empty,s,M.files.length⟩ h5 (acz hM.budget hK);have e5:nZ (bs++[q]) ⟨ByteArray.empty,s,M.files.length⟩=ptr q:=by
  unfold nZ;rw [abA hs];simp [acG,← hl]
 rw [e5]at hlk;refine hlk.mono ?_;rintro e w1 ⟨v,rfl,wv',hS⟩;refine ⟨v,rfl,aJ.shut (bs:=bs++[q]) (fb:=fb) (nb:=nb) (wv:=wv') (by simp [ay.link,hl]) ?_⟩;exact hS.sel 5 [0,1,3,4,2] rfl rfl
theorem NR (hM:M.Ok K) (hK:K≤1099511627776) (h:Sat w0 w (aJ m M::F)) (s:ByteArray) (hs:s.size≤9223372036854775807) :
  Calls Tryz.prog 140 #[ptr m,.string s] w (aP fun v w'=>v=errno (M.create s).2∧Sat w0 w' (aJ m (M.create s).1::F)):=by
 obtain ⟨bs,fb,nb,wv,hl,hR⟩:=aJ.open h;have hd:=xJ hR;have hg:=Xk s w hs;have c2:=hR.cellAt 2 _ rfl;cases ho:M.off
 ·rw [ho]at hd;cases hgs:good s
  ·rw [hgs]at hg;have bF:Hid (M.create s=(M,7)):=by show _=_;simp [ay.create,ho,hgs]
   clear ho hgs;go_enter Tryz.func140,Tryz.ntmps140;go_wp2_with (first|(go_at_call 63;refine hd.mono ?_;rintro e w1 ⟨v,rfl,rfl,rfl⟩)|(go_at_call 176;refine hg.mono ?_;rintro e w1 ⟨v,rfl,rfl,rfl⟩));go_ret;exact ⟨errno 7,rfl,by rw [bF.out],by rw [bF.out];exact h⟩
  rw [hgs]at hg;have hlk:=Pv (s:=s) (hR.aY);cases hn:bP M.now s with
  |some i=>
   have bF:Hid (M.create s=(M,10)):=by show _=_;simp [ay.create,ho,hgs,hn]
   rw [Ac,hn]at hlk;clear ho hgs hn;simp only at hlk;generalize bs.getD i 0=q at hlk;go_enter Tryz.func140,Tryz.ntmps140;go_wp2_with (first|(go_at_call 63;refine hd.mono ?_;rintro e w1 ⟨v,rfl,rfl,rfl⟩)|(go_at_call 176;refine hg.mono ?_;rintro e w1 ⟨v,rfl,rfl,rfl⟩));go_ret;exact ⟨errno 10,rfl,by rw [bF.out],by rw [bF.out];exact h⟩
  |none=>
   rw [Ac,hn]at hlk;simp only at hlk;have hlen:=fun ty=>ah5 (hR.aY) ty;by_cases Ol:500≤(M.now.length:Int)
   ·have bF:Hid (M.create s=(M,16)):=by
     show _=_;have:500≤M.now.length:=by omega
     simp [ay.create,ho,hgs,hn,this]
    clear ho hgs hn;go_enter Tryz.func140,Tryz.ntmps140;go_wp2_with (first|(go_at_call 63;refine hd.mono ?_;rintro e w1 ⟨v,rfl,rfl,rfl⟩)|(go_at_call 176;refine hg.mono ?_;rintro e w1 ⟨v,rfl,rfl,rfl⟩));go_ret;exact ⟨errno 16,rfl,by rw [bF.out],by rw [bF.out];exact h⟩
   have Jj:¬ 500≤M.now.length:=by omega
   have hb5:decide ((500:Int)≤(M.now.length:Int))=false:=by rw [adE];exact Ol
   have hst:=BF hR hM.left;cases hstep:M.step.2
   ·rw [hstep]at hst;have bF:Hid (M.create s=(M.step.1,12)):=by show _=_;simp [ay.create,ho,hgs,hn,Jj,hstep]
    clear ho hgs hn hstep Ol Jj;go_enter Tryz.func140,Tryz.ntmps140;go_wp2_with (first|(go_at_call 63;refine hd.mono ?_;rintro e w1 ⟨v,rfl,rfl,rfl⟩)|(go_at_call 176;refine hg.mono ?_;rintro e w1 ⟨v,rfl,rfl,rfl⟩)|(go_at_call 128;refine hst.mono ?_;rintro e w1 ⟨v,rfl,rfl,hS1⟩));go_ret;refine ⟨errno 12,rfl,by rw [bF.out],?_⟩;rw [bF.out];exact aJ.shut (bs:=bs) (fb:=fb) (nb:=nb) (wv:=wv) (by rw [M.jL.2.2.2.1];exact hl) (tJ hS1)
   ·rw [hstep]at hst;have bF:Hid (M.create s=(({ M.step.1 with files:=M.files++[bH.new] }:ay).link ⟨ByteArray.empty,s,M.files.length⟩,0)):=by show _=_;simp [ay.create,ho,hgs,hn,Jj,hstep]
    have hne:=qP hgs;clear ho hgs hn hstep Ol Jj;have hl':bs.length=M.step.1.files.length:=by rw [M.jL.2.2.2.1];exact hl
    have zo:=uQ hl';clear hl';go_enter Tryz.func140,Tryz.ntmps140;go_wp2_with (first|(go_at_call 63;refine hd.mono ?_;rintro e w1 ⟨v,rfl,rfl,rfl⟩)|(go_at_call 176;refine hg.mono ?_;rintro e w1 ⟨v,rfl,rfl,rfl⟩)|(go_at_call 128;refine hst.mono ?_;rintro e w1 ⟨v,rfl,rfl,hS1⟩)|(go_at_call 129;go_must (refine (ae3 hM.step hK zo.out hne (tJ hS1)).mono ?_);rintro e w2 ⟨v2,rfl,hS2⟩));go_ret;refine ⟨errno 0,rfl,by rw [bF.out],?_⟩;rw [bF.out];have e4:=M.jL.2.2.2.1;rw [e4]at hS2;exact hS2
 ·rw [ho]at hd;have bF:Hid (M.create s=(M,12)):=by show _=_;simp [ay.create,ho]
  clear ho;go_enter Tryz.func140,Tryz.ntmps140;go_wp2_with (go_at_call 63;refine hd.mono ?_;rintro e w1 ⟨v,rfl,rfl,rfl⟩);go_ret;exact ⟨errno 12,rfl,by rw [bF.out],by rw [bF.out];exact h⟩
end
section
variable {w0 w:World}{F:List aH}{m fb nb b r:Nat}{M:ay}{bs:List Nat}{wv v bv:Value}{s:ByteArray}{l:Names}{fs:List bH}{K:Nat}
theorem aak (hl:bs.length=M.files.length){i:Nat} (hi:i<M.files.length) (h:Sat w0 w (vK m M bs fb nb wv++F)) :
  ∃ G:aH,Sat w0 w (kG (bs.getD i 0) (M.file i)::nI m M fb nb wv::omap .string nb (dX bs M.now)::omap .string fb (dX bs M.fast)::aB 133 3 wv (M.waits.flatMap (mV bs))::G::F) ∧
   ∀ (w':World) (f':bH),Sat w0 w' (kG (bs.getD i 0) f'::nI m M fb nb wv::omap .string nb (dX bs M.now)::omap .string fb (dX bs M.fast)::aB 133 3 wv (M.waits.flatMap (mV bs))::G::F)→Sat w0 w' (aJ m (M.iU i f')::F):=by
 obtain ⟨G,h1,h2⟩:=NZ bs M.files i hl hi;refine ⟨G,?_,fun w' f' h'=>?_⟩
 ·have h3:=h.sel 5 [2,0,1,3,4] rfl rfl;have h4:Sat w0 w (nS bs M.files::nI m M fb nb wv::omap .string nb (dX bs M.now)::omap .string fb (dX bs M.fast)::aB 133 3 wv (M.waits.flatMap (mV bs))::F):=h3;rw [h1]at h4;exact (Sat.star.1 h4).sel 6 [0,2,3,4,5,1] rfl rfl
 ·refine aJ.shut (bs:=bs) (fb:=fb) (nb:=nb) (wv:=wv) (by simp [ay.iU,hl]) ?_;have h4:Sat w0 w' (kG (bs.getD i 0) f'::G::nI m M fb nb wv::omap .string nb (dX bs M.now)::omap .string fb (dX bs M.fast)::aB 133 3 wv (M.waits.flatMap (mV bs))::F):=h'.sel 6 [0,5,1,2,3,4] rfl rfl;have h5:=Sat.star.2 h4;rw [← h2]at h5;exact h5.sel 5 [1,2,0,3,4] rfl rfl
theorem KN (hM:M.Ok K) (h:Sat w0 w (aJ m M::F)) (s:ByteArray) :
  Calls Tryz.prog 110 #[ptr m,.string s] w (aP fun v w'=>v=errno (M.sync s).2∧Sat w0 w' (aJ m (M.sync s).1::F)):=by
 obtain ⟨bs,fb,nb,wv,hl,hR⟩:=aJ.open h;cases ho:M.off
 ·cases hn:bP M.now s with
  |none=>
   have hf:=zW (s:=s) hR ho hn;have bF:Hid (M.sync s=(M,9)):=by show _=_;simp [ay.sync,ho,hn]
   clear ho hn;go_enter Tryz.func110,Tryz.ntmps110;go_wp2_with (go_at_call 90;refine hf.mono ?_;rintro e w1 ⟨v,rfl,rfl,rfl⟩);go_ret;exact ⟨errno 9,rfl,by rw [bF.out],by rw [bF.out];exact h⟩
  |some i=>
   have hf:=zY (s:=s) hR ho hn;have hid:i<M.files.length:=hM.gG.ids (s,i) (jF hn);have hst:=BF hR hM.left;cases hstep:M.step.2
   ·rw [hstep]at hst;have bF:Hid (M.sync s=(M.step.1,12)):=by show _=_;simp [ay.sync,ho,hn,hstep]
    clear ho hn hstep;go_enter Tryz.func110,Tryz.ntmps110;go_wp2_with (first|(go_at_call 90;refine hf.mono ?_;rintro e w1 ⟨v,rfl,rfl,rfl⟩)|(go_at_call 128;refine hst.mono ?_;rintro e w1 ⟨v,rfl,rfl,hS1⟩));go_ret;refine ⟨errno 12,rfl,by rw [bF.out],?_⟩;rw [bF.out];exact aJ.shut (bs:=bs) (fb:=fb) (nb:=nb) (wv:=wv) (by rw [M.jL.2.2.2.1];exact hl) (tJ hS1)
   ·rw [hstep]at hst;have bF:Hid (M.sync s=(M.step.1.iU i (M.file i).sync,0)):=by show _=_;simp [ay.sync,ho,hn,hstep]
    clear ho hn hstep;have hl':bs.length=M.step.1.files.length:=by rw [M.jL.2.2.2.1];exact hl
    have OC:i<M.step.1.files.length:=by rw [M.jL.2.2.2.1];exact hid
    have hfe:M.step.1.file i=M.file i:=by unfold ay.file;rw [M.jL.2.2.2.1]
    have hnl:=(hM.file i).uN;have zo:=uQ hl';have LY:=uQ hfe;clear hl' hfe;generalize hq:bs.getD i 0=q at hf;have Hq:=uQ hq;clear hq;go_enter Tryz.func110,Tryz.ntmps110;go_wp2_with (first|(go_at_call 90;refine hf.mono ?_;rintro e w1 ⟨v,rfl,rfl,rfl⟩)|(go_at_call 128;fail));refine hst.mono ?_;rintro e w1 ⟨v,rfl,rfl,hS1⟩;obtain ⟨G,h1,h2⟩:=aak zo.out OC (tJ hS1);rw [LY.out,Hq.out]at h1;rw [Hq.out]at h2;obtain ⟨fv,nv,wv',ws,hws,h3⟩:=kG.open h1;have H2:=uQ h2;clear h2 hS1 h1 hws;have h4:Sat w0 w1 (CB q fv nv wv'::bK nv (M.file i).now::_):=h3.sel 3 [0,2] rfl rfl;have c1:=h4.cellAt 1 _ rfl;obtain ⟨na,nn,nc,rfl⟩:=IW h4.aY;have hcl:=zS h4 h4.aY.rd oQ;go_wp2_with (go_at_call 91;go_must (refine hcl.mono ?_);rintro e w2 ⟨v2,rfl,hS2,a2,n2,k2,rfl⟩;have g0:=hS2.aY.oL 0;have g2:=hS2.aY.oL 2;have d0:=hS2.aY.cellAt 0 _ rfl;have d2:=hS2.aY.cellAt 2 _ rfl);go_ret
    refine ⟨errno 0,rfl,by rw [bF.out],?_⟩;rw [bF.out];refine H2.out _ _ ?_;have h5:=(hS2.aY.set 0 (.slice a2 n2 k2)).set 2 (.slice none 0 0);refine kG.shut (fv:= .slice a2 n2 k2) (nv:= .slice na nn nc) (wv:= .slice none 0 0) (ws:=[]) rfl ?_;have h6:Sat w0 _ (aB 199 3 (.slice none 0 0) []::uD []::_::_::_::aB _ _ _ _::uD _::_):=Sat.gI.2 (Sat.emp.2 h5);exact h6.sel 7 [2,3,4,0,1] rfl rfl
 ·have hf:=zX (s:=s) hR ho;have bF:Hid (M.sync s=(M,12)):=by show _=_;simp [ay.sync,ho]
  clear ho;go_enter Tryz.func110,Tryz.ntmps110;go_wp2_with (go_at_call 90;refine hf.mono ?_;rintro e w1 ⟨v,rfl,rfl,rfl⟩);go_ret;exact ⟨errno 12,rfl,by rw [bF.out],by rw [bF.out];exact h⟩
end
section
variable {w0 w:World}{F:List aH}{m fb nb b r:Nat}{M:ay}{bs:List Nat}{wv v bv:Value}{s:ByteArray}{l:Names}{fs:List bH}{K:Nat}
theorem Gs {lb:Bs} (hr:Ro w0 F (bG 1 bv (aA lb))){A:aH} (h:Sat w0 w (A::F)):∃ a n c,bv = .slice a n c∧n=lb.length:=by
 obtain ⟨a,n,c,rfl,hl,_⟩:=hr w h.drop;rw [aX,adb]at hl;exact ⟨a,n,c,rfl,hl.symm⟩
theorem IG (hM:M.Ok K) (hK:K≤1099511627776) (h:Sat w0 w (aJ m M::F)) (s:ByteArray) (lb:Bs) (hr:Ro w0 F (bG 1 bv (aA lb))) :
  Calls Tryz.prog 141 #[ptr m,.string s,bv] w (aP fun v w'=>v=errno (M.append s lb).2∧Sat w0 w' (aJ m (M.append s lb).1::F)):=by
 obtain ⟨bs,fb,nb,wv,hl,hR⟩:=aJ.open h;cases ho:M.off
 ·cases hn:bP M.now s with
  |none=>
   obtain ⟨ba,bn,bc,rfl,hbn⟩:=Gs hr h;clear hbn;have hf:=zW (s:=s) hR ho hn;have bF:Hid (M.append s lb=(M,9)):=by show _=_;simp [ay.append,ho,hn]
   clear ho hn hr;go_enter Tryz.func141,Tryz.ntmps141;go_wp2_with (go_at_call 90;refine hf.mono ?_;rintro e w1 ⟨v,rfl,rfl,rfl⟩);go_ret;exact ⟨errno 9,rfl,by rw [bF.out],by rw [bF.out];exact h⟩
  |some i=>
   have hf:=zY (s:=s) hR ho hn;have hid:i<M.files.length:=hM.gG.ids (s,i) (jF hn);obtain ⟨ba,bn,bc,rfl,hbn⟩:=Gs hr h;have hu:=abS (w:=w.drew) (m:=m) (M:=M) (fb:=fb) (nb:=nb) (wv:=wv) (bs:=bs) hR.drew hl hM.gG.ids (by have:=hM.SE;omega);have hut:M.qF=M.used:=by simp [ay.qF,ho]
   rw [hut]at hu;have hu2:=hM.SE;have hr2:=hM.room;have c0:=hR.cellAt 0 _ rfl;have Hr:=uQ hr;clear hr;clear hut;by_cases hfull:(M.room:Int) - M.used<lb.length
   ·have bF:Hid (M.append s lb=(M,11)):=by show _=_;simp [ay.append,ho,hn,hfull]
    clear ho hn;subst hbn;have hwr:IntKind.i64.wrap ((M.room:Int) - (M.used:Int))=(M.room:Int) - (M.used:Int):=acC _ oQ;go_enter Tryz.func141,Tryz.ntmps141;go_wp2_with (go_at_call 90;refine hf.mono ?_;rintro e w1 ⟨v,rfl,rfl,rfl⟩);refine dS [8,9] (fun w'=>w'.cell? ⟨m,0,none⟩=some (.int .i64 M.room)) au ?_;have hG:=c0;refine fO (i:=0) (v:=?_) rfl au (fun _ _ _ h=>h) (Or.inl ⟨by rfl,?_⟩) ?_;rotate_left;focus ((intro wq;go_simp);first|done|(with_reducible rfl))
    refine fO (i:=1) (v:=?_) rfl au (fun _ _ _ h=>h) (Or.inl ⟨by rfl,?_⟩) ?_;rotate_left;focus ((intro wq;go_simp);first|done|(with_reducible rfl))
    refine fO (i:=2) (v:=?_) rfl au (fun _ _ _ h=>h) (Or.inl ⟨by rfl,?_⟩) ?_;rotate_left;focus ((intro wq;go_simp);first|done|(with_reducible rfl))
    refine fO (i:=3) (v:=?_) rfl au (fun _ _ _ h=>h) (Or.inl ⟨by rfl,?_⟩) ?_;rotate_left;focus ((intro wq;go_simp);first|done|(with_reducible rfl))
    refine fO (i:=4) (v:=?_) rfl au (fun _ _ _ h=>h) (Or.inl ⟨by rfl,?_⟩) ?_;rotate_left;focus ((intro wq;go_simp);first|done|(with_reducible rfl))
    refine pY (i:=5) (v:=?_) rfl au (fun _ _ _ h=>h) (Or.inl ⟨by rfl,?_⟩) aQ ?_;rotate_left;focus ((intro wq hq;go_split_ands;go_simp);first|done|(with_reducible rfl))
    refine fO (i:=6) (v:=?_) rfl au (fun _ _ _ h=>h) (Or.inl ⟨by rfl,?_⟩) ?_;rotate_left;focus ((intro wq;go_simp);first|done|(with_reducible rfl))
    refine pX (i:=7) rfl au (fun K hK=>?_);go_simp;refine hu.mono ?_;rintro e w1 ⟨v,rfl,rfl,yh⟩;refine hK _ _ (.inr (.inl (yh.cellAt 0 _ rfl))) ?_;clear hK K hG;refine fO (i:=8) (v:=?_) rfl au (fun _ _ _ h=>h) (Or.inl ⟨by rfl,?_⟩) ?_;rotate_left;focus ((intro wq;go_simp);first|done|(with_reducible rfl))
    refine fO (i:=9) (v:=?_) rfl au (fun _ _ _ h=>h) (Or.inl ⟨by rfl,?_⟩) ?_;rotate_left;focus ((intro wq;go_simp);first|done|(with_reducible rfl))
    refine dI au ?_;clear hwr;go_wp2;go_ret;exact ⟨errno 11,rfl,by rw [bF.out],by rw [bF.out];exact aJ.shut hl yh⟩
   have anz:decide ((M.room:Int) - M.used<lb.length)=false:=by rw [adE];exact hfull
   cases hstep:M.step.2
   ·have bF:Hid (M.append s lb=(M.step.1,12)):=by show _=_;simp [ay.append,ho,hn,hfull,hstep]
    have Hs:=uQ hstep;clear ho hn hstep hfull;subst hbn;have hwr:IntKind.i64.wrap ((M.room:Int) - (M.used:Int))=(M.room:Int) - (M.used:Int):=acC _ oQ;go_enter Tryz.func141,Tryz.ntmps141;go_wp2_with (go_at_call 90;refine hf.mono ?_;rintro e w1 ⟨v,rfl,rfl,rfl⟩);refine dS [8,9] (fun w'=>w'.cell? ⟨m,0,none⟩=some (.int .i64 M.room)) au ?_;have hG:=c0;refine fO (i:=0) (v:=?_) rfl au (fun _ _ _ h=>h) (Or.inl ⟨by rfl,?_⟩) ?_;rotate_left;focus ((intro wq;go_simp);first|done|(with_reducible rfl))
    refine fO (i:=1) (v:=?_) rfl au (fun _ _ _ h=>h) (Or.inl ⟨by rfl,?_⟩) ?_;rotate_left;focus ((intro wq;go_simp);first|done|(with_reducible rfl))
    refine fO (i:=2) (v:=?_) rfl au (fun _ _ _ h=>h) (Or.inl ⟨by rfl,?_⟩) ?_;rotate_left;focus ((intro wq;go_simp);first|done|(with_reducible rfl))
    refine fO (i:=3) (v:=?_) rfl au (fun _ _ _ h=>h) (Or.inl ⟨by rfl,?_⟩) ?_;rotate_left;focus ((intro wq;go_simp);first|done|(with_reducible rfl))
    refine fO (i:=4) (v:=?_) rfl au (fun _ _ _ h=>h) (Or.inl ⟨by rfl,?_⟩) ?_;rotate_left;focus ((intro wq;go_simp);first|done|(with_reducible rfl))
    refine pY (i:=5) (v:=?_) rfl au (fun _ _ _ h=>h) (Or.inl ⟨by rfl,?_⟩) aQ ?_;rotate_left;focus ((intro wq hq;go_split_ands;go_simp);first|done|(with_reducible rfl))
    refine fO (i:=6) (v:=?_) rfl au (fun _ _ _ h=>h) (Or.inl ⟨by rfl,?_⟩) ?_;rotate_left;focus ((intro wq;go_simp);first|done|(with_reducible rfl))
    refine pX (i:=7) rfl au (fun K hK=>?_);go_simp;refine hu.mono ?_;rintro e w1 ⟨v,rfl,rfl,yh⟩;refine hK _ _ (.inr (.inl (yh.cellAt 0 _ rfl))) ?_;clear hK K hG;refine fO (i:=8) (v:=?_) rfl au (fun _ _ _ h=>h) (Or.inl ⟨by rfl,?_⟩) ?_;rotate_left;focus ((intro wq;go_simp);first|done|(with_reducible rfl))
    refine fO (i:=9) (v:=?_) rfl au (fun _ _ _ h=>h) (Or.inl ⟨by rfl,?_⟩) ?_;rotate_left;focus ((intro wq;go_simp);first|done|(with_reducible rfl))
    refine dI au ?_;clear hwr;have hst:=BF yh hM.left;rw [Hs.out]at hst;go_wp2_with (go_at_call 128;refine hst.mono ?_;rintro e w2 ⟨v,rfl,rfl,hS1⟩);go_ret;refine ⟨errno 12,rfl,by rw [bF.out],?_⟩;rw [bF.out];exact aJ.shut (bs:=bs) (fb:=fb) (nb:=nb) (wv:=wv) (by rw [M.jL.2.2.2.1];exact hl) (tJ hS1)
   ·have bF:Hid (M.append s lb=(M.step.1.iU i ((M.file i).do ⟨false,0,lb⟩),0)):=by show _=_;simp [ay.append,ho,hn,hfull,hstep]
    have Hs:=uQ hstep;have hfe:M.step.1.file i=M.file i:=by unfold ay.file;rw [M.jL.2.2.2.1]
    have X7:=hM.file i;have hbig:lb.length≤16777216:=by omega
    clear ho hn hstep hfull;subst hbn;generalize hq:bs.getD i 0=q at hf;have Hq:=uQ hq;clear hq;have LY:=uQ hfe;clear hfe;have dw:=uQ X7;clear X7;have hwr:IntKind.i64.wrap ((M.room:Int) - (M.used:Int))=(M.room:Int) - (M.used:Int):=acC _ oQ;go_enter Tryz.func141,Tryz.ntmps141;go_wp2_with (go_at_call 90;refine hf.mono ?_;rintro e w1 ⟨v,rfl,rfl,rfl⟩);refine dS [8,9] (fun w'=>w'.cell? ⟨m,0,none⟩=some (.int .i64 M.room)) au ?_;have hG:=c0;refine fO (i:=0) (v:=?_) rfl au (fun _ _ _ h=>h) (Or.inl ⟨by rfl,?_⟩) ?_;rotate_left;focus ((intro wq;go_simp);first|done|(with_reducible rfl))
    refine fO (i:=1) (v:=?_) rfl au (fun _ _ _ h=>h) (Or.inl ⟨by rfl,?_⟩) ?_;rotate_left;focus ((intro wq;go_simp);first|done|(with_reducible rfl))
    refine fO (i:=2) (v:=?_) rfl au (fun _ _ _ h=>h) (Or.inl ⟨by rfl,?_⟩) ?_;rotate_left;focus ((intro wq;go_simp);first|done|(with_reducible rfl))
    refine fO (i:=3) (v:=?_) rfl au (fun _ _ _ h=>h) (Or.inl ⟨by rfl,?_⟩) ?_;rotate_left;focus ((intro wq;go_simp);first|done|(with_reducible rfl))
    refine fO (i:=4) (v:=?_) rfl au (fun _ _ _ h=>h) (Or.inl ⟨by rfl,?_⟩) ?_;rotate_left;focus ((intro wq;go_simp);first|done|(with_reducible rfl))
    refine pY (i:=5) (v:=?_) rfl au (fun _ _ _ h=>h) (Or.inl ⟨by rfl,?_⟩) aQ ?_;rotate_left;focus ((intro wq hq;go_split_ands;go_simp);first|done|(with_reducible rfl))
    refine fO (i:=6) (v:=?_) rfl au (fun _ _ _ h=>h) (Or.inl ⟨by rfl,?_⟩) ?_;rotate_left;focus ((intro wq;go_simp);first|done|(with_reducible rfl))
    refine pX (i:=7) rfl au (fun K hK=>?_);go_simp;refine hu.mono ?_;rintro e w1 ⟨v,rfl,rfl,yh⟩;refine hK _ _ (.inr (.inl (yh.cellAt 0 _ rfl))) ?_;clear hK K hG;refine fO (i:=8) (v:=?_) rfl au (fun _ _ _ h=>h) (Or.inl ⟨by rfl,?_⟩) ?_;rotate_left;focus ((intro wq;go_simp);first|done|(with_reducible rfl))
    refine fO (i:=9) (v:=?_) rfl au (fun _ _ _ h=>h) (Or.inl ⟨by rfl,?_⟩) ?_;rotate_left;focus ((intro wq;go_simp);first|done|(with_reducible rfl))
    refine dI au ?_;clear hwr;have hst:=BF yh hM.left;rw [Hs.out]at hst;go_wp2_with (go_at_call 128;fail);refine hst.mono ?_;rintro e w2 ⟨v,rfl,rfl,hS1⟩;have hl':bs.length=M.step.1.files.length:=by rw [M.jL.2.2.2.1];exact hl
    have OC:i<M.step.1.files.length:=by rw [M.jL.2.2.2.1];exact hid
    obtain ⟨G,h1,h2⟩:=aak hl' OC (tJ hS1);rw [LY.out,Hq.out]at h1;rw [Hq.out]at h2;have hrd:=Hr.out w2 (h1.sel 6 [] rfl rfl);have hcl:=zS h1 hrd oQ;go_wp2_with (go_at_call 91;fail);refine hcl.mono ?_;rintro e w3 ⟨v2,rfl,hS2,a2,n2,k2,rfl⟩;obtain ⟨fv,nv,wv',ws,hws,h3⟩:=kG.open hS2.aY;have hdo:=afl (bv:= .slice a2 n2 k2) ⟨false,0,lb⟩ (h3.sel 6 [0,1,2,3,4,5] rfl rfl) hws ⟨(fun h=>by cases h),fun _=>by have:=dw.out.uN;simp only;omega⟩ (acz dw.out.budget hK);clear h3 hws hst hcl hrd h1 hu;go_wp2_with (go_at_call 177;go_must (refine hdo.mono ?_);rintro e w4 ⟨v4,rfl,hS4⟩);go_ret;refine ⟨errno 0,rfl,by rw [bF.out],?_⟩;rw [bF.out];exact h2 _ _ hS4
 ·obtain ⟨ba,bn,bc,rfl,hbn⟩:=Gs hr h;clear hbn;have hf:=zX (s:=s) hR ho;have bF:Hid (M.append s lb=(M,12)):=by show _=_;simp [ay.append,ho]
  clear ho hr;go_enter Tryz.func141,Tryz.ntmps141;go_wp2_with (go_at_call 90;refine hf.mono ?_;rintro e w1 ⟨v,rfl,rfl,rfl⟩);go_ret;exact ⟨errno 12,rfl,by rw [bF.out],by rw [bF.out];exact h⟩
theorem RI (hM:M.Ok K) (h:Sat w0 w (aJ m M::F)) :
  Calls Tryz.prog 76 #[ptr m] w (aP fun v w'=>v=errno M.dR.2∧Sat w0 w' (aJ m M.dR.1::F)):=by
 obtain ⟨bs,fb,nb,wv,hl,hR⟩:=aJ.open h;have hd:=xJ hR;cases ho:M.off
 ·rw [ho]at hd;have hst:=BF hR hM.left;cases hstep:M.step.2
  ·rw [hstep]at hst;have bF:Hid (M.dR=(M.step.1,12)):=by show _=_;simp [ay.dR,ho,hstep]
   clear ho hstep;go_enter Tryz.func76,Tryz.ntmps76;go_wp2_with (first|(go_at_call 63;refine hd.mono ?_;rintro e w1 ⟨v,rfl,rfl,rfl⟩)|(go_at_call 128;refine hst.mono ?_;rintro e w1 ⟨v,rfl,rfl,hS1⟩));go_ret;refine ⟨errno 12,rfl,by rw [bF.out],?_⟩;rw [bF.out];exact aJ.shut (bs:=bs) (fb:=fb) (nb:=nb) (wv:=wv) (by rw [M.jL.2.2.2.1];exact hl) (tJ hS1)
  ·rw [hstep]at hst;have bF:Hid (M.dR=({ M.step.1 with fast:=M.now,waits:=[] },0)):=by show _=_;simp [ay.dR,ho,hstep]
   clear ho hstep;go_enter Tryz.func76,Tryz.ntmps76;go_wp2_with (first|(go_at_call 63;refine hd.mono ?_;rintro e w1 ⟨v,rfl,rfl,rfl⟩)|(go_at_call 128;fail));refine hst.mono ?_;rintro e w1 ⟨v,rfl,rfl,hS1⟩;have c2:=hS1.cellAt 2 _ rfl;have hcp:=aeW hS1.aY;go_wp2_with (go_at_call 65;go_must (refine hcp.mono ?_);rintro e w2 ⟨v,rfl,b',rfl,hS2⟩;have d1:=hS2.eH.cellAt 1 _ rfl;have d3:=hS2.eH.cellAt 3 _ rfl;have g1:=hS2.eH.oL 1;have g3:=hS2.eH.oL 3);go_ret;refine ⟨errno 0,rfl,by rw [bF.out],?_⟩;rw [bF.out];have h5:=(hS2.eH.set 1 (.map (some b'))).set 3 (.slice none 0 0);obtain ⟨e1,e2,e3,e4,e5⟩:=M.jL;refine aJ.shut (bs:=bs) (fb:=b') (nb:=nb) (wv:= .slice none 0 0) (by simp only [e4];exact hl) ?_;have h6:Sat w0 _ (aB 133 3 (.slice none 0 0) []::_::_::_::_::_::aB _ _ _ _::F):=Sat.gI.2 h5;unfold vK;simp only [e3,e4];exact h6.sel 7 [1,3,4,2,0] rfl rfl
 ·rw [ho]at hd;have bF:Hid (M.dR=(M,12)):=by show _=_;simp [ay.dR,ho]
  clear ho;go_enter Tryz.func76,Tryz.ntmps76;go_wp2_with (go_at_call 63;refine hd.mono ?_;rintro e w1 ⟨v,rfl,rfl,rfl⟩);go_ret;exact ⟨errno 12,rfl,by rw [bF.out],by rw [bF.out];exact h⟩
end
section
variable {w0 w:World}{F:List aH}{m fb nb b r:Nat}{M:ay}{bs:List Nat}{wv v bv lv:Value}{s:ByteArray}{fs:List bH}{K:Nat}{f:bH}
def ints (l:List Int):List Value:=l.map (.int .i64)
def qo (x:Int):Prop:= -9223372036854775808≤x∧x≤9223372036854775807
def lQ (v:Value):Prop:=∃ a n c,v = .slice a n c∧n≤c∧c≤9223372036854775807
end
section
variable {w0 w:World}{F:List aH}{m fb nb b r:Nat}{M:ay}{bs:List Nat}{wv v bv lv av:Value}{s:ByteArray}{fs:List bH}{K:Nat}{f:bH}
theorem wF {a:Option Addr}{n c:Nat}{xs:List Value} (h:bG 1 (.slice a n c) xs w){i:Nat}{x:Value} (hi:xs[i]?=some x) :
  ∃ bk off,a=some ⟨bk,off,none⟩∧w.cell? ⟨bk,off+i,none⟩=some x:=by
 obtain ⟨a',n',c',he,hl,hx⟩:=h;cases he;obtain ⟨b,rfl,hc⟩:=hx i x hi;have hlt:i<xs.length:=(abW.1 hi).1;obtain ⟨y,hy⟩:∃ y,xs[0]?=some y:=⟨xs[0]'oQ,aaI _⟩;obtain ⟨b',hb',hc0⟩:=hx 0 y hy;cases hb';obtain ⟨bk,off,spot⟩:=b;have hs:spot=none:=by simpa [Addr.add] using World.cell?_spot hc0
 subst hs;refine ⟨bk,off,rfl,?_⟩;unfold Addr.add at hc;split at hc
 ·rename_i h0;subst h0;exact hc
 ·exact hc
theorem cut_c (a:Option Addr) (n c k:Nat) (h1:n≤c) (h2:c≤9223372036854775807) (w:World) :
  Calls Tryz.prog 32 #[.slice a n c,.int .i64 k] w (aP fun v w'=>v = .slice a (min n k) c∧w=w'):=by
 by_cases hk:k<n
 ·have hk1:(k:Int)<(n:Int):=by omega
  have hk2:(k:Int)≤(c:Int):=by omega
  have e:=uQ (show min n k=k by omega);go_enter Tryz.func32,Tryz.ntmps32;go_wp2;go_ret;exact ⟨.slice a k c,rfl,by rw [e.out],rfl⟩
 ·have hk1:¬ (k:Int)<(n:Int):=by omega
  have e:=uQ (show min n k=n by omega);go_enter Tryz.func32,Tryz.ntmps32;go_wp2;go_ret;exact ⟨.slice a n c,rfl,by rw [e.out],rfl⟩
theorem aiM (a:Option Addr) (n c k:Nat) (h1:n≤c) (h2:c≤9223372036854775807) (w:World) :
  Calls Tryz.prog 27 #[.slice a n c,.int .i64 k] w (aP fun v w'=>v = .slice a (min n k) c∧w=w'):=by
 by_cases hk:k<n
 ·have hk1:(k:Int)<(n:Int):=by omega
  have hk2:(k:Int)≤(c:Int):=by omega
  have e:=uQ (show min n k=k by omega);go_enter Tryz.func27,Tryz.ntmps27;go_wp2;go_ret;exact ⟨.slice a k c,rfl,by rw [e.out],rfl⟩
 ·have hk1:¬ (k:Int)<(n:Int):=by omega
  have e:=uQ (show min n k=n by omega);go_enter Tryz.func27,Tryz.ntmps27;go_wp2;go_ret;exact ⟨.slice a n c,rfl,by rw [e.out],rfl⟩
theorem aaZ (la:Bs) (ha:Ro w0 F (bG 1 av (aA la))) (hb:Ro w0 F (bG 1 bv (aA la))) (h:Sat w0 w F) (hlen:la.length≤9223372036854775807) :
  Calls Tryz.prog 26 #[av,bv] w (aP fun v w'=>v = .bool true∧Sat w0 w' F):=by
 obtain ⟨aa,an,ac,rfl,hal,_⟩:=id (ha w h);obtain ⟨ba,bn,bc,rfl,hbl,_⟩:=id (hb w h);rw [aX,adb]at hal hbl;subst hal;obtain rfl:=hbl.symm;have Ha:=uQ ha;have Hb:=uQ hb;clear ha hb;go_enter Tryz.func26,Tryz.ntmps26;go_wp2
 go_loopg [5] la.length (fun g iq wr=>∃ i:Nat,g=la.length - i∧i≤la.length∧iq = .int .i64 i∧Sat w0 wr F)
 case atStart=>exact ⟨0,rfl,acV _,rfl,h⟩
 case round=>
  obtain ⟨i,rfl,hiN,rfl,hS⟩:=hrel;by_cases hi:i<la.length
  ·have hx:(aA la)[i]?=some (.int .u8 (la[i]'hi).toNat):=by unfold aA;simp [hi]
   obtain ⟨bk,off,rfl,c1⟩:=wF (Ha.out _ hS) hx;obtain ⟨bk2,off2,rfl,c2⟩:=wF (Hb.out _ hS) hx;generalize ((la[i]'hi).toNat:Int)=X at c1 c2;clear hx;have hic:(i:Int)<(la.length:Int):=by omega
   have hS1:=hS.drew;go_wp2;refine dS [8] (fun w'=>w'.cell? ⟨bk,off+i,none⟩=some (.int .u8 X)∧w'.cell? ⟨bk2,off2+i,none⟩=some (.int .u8 X)) au ?_;have hG:_∧_:=And.intro c1 c2;refine fO (i:=0) (v:=?_) rfl au (fun _ _ _ h=>h) (Or.inl ⟨by rfl,?_⟩) ?_;rotate_left;focus ((intro wq;go_simp);first|done|(with_reducible rfl))
   refine fO (i:=1) (v:=?_) rfl au (fun _ _ _ h=>h) (Or.inl ⟨by rfl,?_⟩) ?_;rotate_left;focus ((intro wq;go_simp);first|done|(with_reducible rfl))
   refine fO (i:=2) (v:=?_) rfl au (fun _ _ _ h=>h) (Or.inl ⟨by rfl,?_⟩) ?_;rotate_left;focus ((intro wq;go_simp);first|done|(with_reducible rfl))
   refine pY (i:=3) (v:=?_) rfl au (fun _ _ _ h=>h) (Or.inl ⟨by rfl,?_⟩) aQ ?_;rotate_left;focus ((intro wq hq;go_split_ands;go_simp);first|done|(with_reducible rfl))
   refine fO (i:=4) (v:=?_) rfl au (fun _ _ _ h=>h) (Or.inl ⟨by rfl,?_⟩) ?_;rotate_left;focus ((intro wq;go_simp);first|done|(with_reducible rfl))
   refine fO (i:=5) (v:=?_) rfl au (fun _ _ _ h=>h) (Or.inl ⟨by rfl,?_⟩) ?_;rotate_left;focus ((intro wq;go_simp);first|done|(with_reducible rfl))
   refine fO (i:=6) (v:=?_) rfl au (fun _ _ _ h=>h) (Or.inl ⟨by rfl,?_⟩) ?_;rotate_left;focus ((intro wq;go_simp);first|done|(with_reducible rfl))
   refine pY (i:=7) (v:=?_) rfl au (fun _ _ _ h=>h) (Or.inl ⟨by rfl,?_⟩) aQ ?_;rotate_left;focus ((intro wq hq;go_split_ands;go_simp);first|done|(with_reducible rfl))
   refine fO (i:=8) (v:=?_) rfl au (fun _ _ _ h=>h) (Or.inl ⟨by rfl,?_⟩) ?_;rotate_left;focus ((intro wq;go_simp);first|done|(with_reducible rfl))
   refine dI au ?_;clear hG;simp only [jT]
   go_frame
   go_wp2
   go_roundg (la.length - (i+1))
   case measure=>omega
   case rel=>exact ⟨i+1,rfl,by omega,by go_num,hS1⟩
  ·obtain rfl:i=la.length:=by omega
   have hic:¬ (la.length:Int)<(la.length:Int):=by omega
   go_wp2;go_ret;exact ⟨.bool true,rfl,rfl,hS⟩
end
section
variable {w0 w:World}{F:List aH}{m fb nb b r:Nat}{M:ay}{bs:List Nat}{wv v bv:Value}{s:ByteArray}{fs:List bH}{K:Nat}
def within (x lo hi:Int):Int:=if x<lo then lo else if hi<x then hi else x
theorem SK (x lo hi:Int) (w:World):Calls Tryz.prog 9 #[.int .i64 x,.int .i64 lo,.int .i64 hi] w (aP fun v w'=>v = .int .i64 (within x lo hi)∧w=w'):=by
 by_cases h1:x<lo
 ·have e:=uQ (show within x lo hi=lo by simp [within,h1]);go_enter Tryz.func9,Tryz.ntmps9;go_wp2;go_ret;exact ⟨.int .i64 lo,rfl,by rw [e.out],rfl⟩
 ·by_cases h2:hi<x
  ·have e:=uQ (show within x lo hi=hi by simp [within,h1,h2]);go_enter Tryz.func9,Tryz.ntmps9;go_wp2;go_ret;exact ⟨.int .i64 hi,rfl,by rw [e.out],rfl⟩
  ·have e:=uQ (show within x lo hi=x by simp [within,h1,h2]);go_enter Tryz.func9,Tryz.ntmps9;go_wp2;go_ret;exact ⟨.int .i64 x,rfl,by rw [e.out],rfl⟩
theorem aeX (h:Sat w0 w F) (l:Bs) (hr:bG 1 bv (aA l) w) (hl:l.length≤1099511627776) :
  Calls Tryz.prog 31 #[bv] w (aP fun v w'=>Sat w0 w' (bK v l::F)∧∃ a n c,v = .slice a n c):=by
 obtain ⟨i,hi,hz0,hz1,hz2⟩:=uK;obtain ⟨a,n,c,rfl,hn,_⟩:=id hr;rw [aX,adb]at hn;have h0:Sat w0 w (aB 5 1 (.slice none 0 0) []::F):=Sat.gI.2 h;have h63:([]:List Value).length+(aA l).length≤maxLen:=by rw [aX];unfold maxLen;simp;omega
 have hby:(([]:List Value).length+(aA l).length) * i.bytes≤140737488355328:=by rw [aX,hz2];simp;omega
 have Hn:=uQ hn;clear hn;go_enter Tryz.func31,Tryz.ntmps31;go_wp2_with (at_builtin;go_must (refine y7 (w0:=w0) aj _ _ _ aj _ i _ Tryz.underlying39 hi hz0 hz1 aj oQ aj aj (vS _) h0 hr h63 hby ?_);intro v2 w2 hS2 hne);obtain ⟨a2,n2,c2,rfl,_⟩:=id hS2.rd;go_wp2;go_ret;exact ⟨_,rfl,hS2,_,_,_,rfl⟩
end
section
variable {w0 w:World}{F:List aH}{v bv:Value}
def Half (w:World):Prop:=∀ i,i<16→w.cell? ⟨0,i,none⟩=some (.int .u32 (ah.half.getD i 0:Nat))
theorem Zt (s:Nat) (hs:s<4294967296):bits .xor .u32 IntKind.u32.max (s:Int)=((4294967295 - s:Nat):Int):=by
 have h1:IntKind.u32.max=((4294967295:Nat):Int):=by decide
 rw [h1,u32_xor_nat _ _ oQ hs]
 congr 1
 have h2:(4294967295 ^^^ s)=(BitVec.allOnes 32 ^^^ BitVec.ofNat 32 s).toNat:=by
  rw [BitVec.toNat_xor,BitVec.toNat_allOnes,BitVec.toNat_ofNat,anU hs]
 rw [h2,BitVec.allOnes_xor,BitVec.toNat_not,BitVec.toNat_ofNat,anU hs]
theorem UO (y:Nat) (hy:y<4294967296):bits .and .u32 (y:Int) 15=((y%16:Nat):Int):=by
 have:=u32_and_nat y 15 hy oQ;rw [nat_mask4]at this;exact this
theorem acg (y h:Nat) (hy:y<4294967296) (hh:h<4294967296):bits .xor .u32 ((y:Int) / 16) (h:Int)=((y / 16 ^^^ h:Nat):Int):=by
 have:=u32_xor_nat (y / 16) h oQ hh;rw [← this]
 rfl
theorem aeZ (s:Nat) (hs:s<4294967296) (l:Bs) (hH:Ro w0 F Half) (hr:Ro w0 F (bG 1 bv (aA l))) (h:Sat w0 w F) (hl:l.length≤1099511627776) :
  Calls Tryz.prog 145 #[.int .u32 s,bv] w (aP fun v w'=>v = .int .u32 (ah.EP s l:Nat)∧w=w'):=by
 obtain ⟨a,n,c,rfl,hn,_⟩:=id (hr w h);rw [aX,adb]at hn;subst hn;have hnot:=Zt s hs;obtain ⟨t0,ht0⟩:∃ t0,t0=4294967295 - s:=⟨_,rfl⟩;rw [← ht0]at hnot;have ht:t0<4294967296:=by omega
 have Hr:=uQ hr;have hHw:=uQ (hH w h);have Hl:=uQ hl;have Ht:=uQ ht;have Ez:=uQ ht0;clear hr hH hl hs ht ht0;go_enter Tryz.func145,Tryz.ntmps145;go_wp2_with fail;clear hnot
 go_loopg [5,12] l.length (fun g xv iq wr=>∃ (i:Nat),g=l.length - i∧i≤l.length∧iq = .int .i64 i∧xv = .int .u32 ((l.take i).foldl ah.uF t0:Nat)∧wr=w)
 case atStart=>exact ⟨0,rfl,acV _,rfl,rfl,rfl⟩
 case round=>
  obtain ⟨i,rfl,hi,rfl,rfl,rfl⟩:=hrel;have FM:(l.take i).foldl ah.uF t0<4294967296:=ah.WZ _ _ Ht.out;by_cases hi':i<l.length
  ·have hb:(aA l)[i]?=some (.int .u8 (l[i]'hi').toNat):=by unfold aA;simp [hi']
   obtain ⟨bk,off,rfl,c1⟩:=wF (Hr.out _ h) hb;have hnext:(l.take (i+1)).foldl ah.uF t0=ah.CO (ah.CO ((l.take i).foldl ah.uF t0 ^^^ (l[i]'hi').toNat)):=by
    rw [agm hi',aob];rfl
   have hic:(i:Int)<(l.length:Int):=by omega
   have hwi:IntKind.i64.wrap ((i:Int)+1)=(i:Int)+1:=acC _ (by have h1:=Hl.out;omega);have hcb:=(l[i]'hi').toNat_lt;have En:=uQ hnext;clear hb hnext;generalize (l[i]'hi').toNat=cb at *
   generalize (l.take i).foldl ah.uF t0=x at *
   have e1:=u32_xor_nat x cb FM oQ;have hy1:x ^^^ cb<4294967296:=ah.BL FM oQ;unfold ah.CO at En;generalize x ^^^ cb=y1 at *
   have e2:=UO y1 hy1;have hz1:y1%16<16:=anH _ oQ;have g1:=hHw.out (y1%16) hz1;have e3:=acg y1 _ hy1 (ah.Jq (y1%16));have hy2:y1 / 16 ^^^ ah.half.getD (y1%16) 0<4294967296:=ah.BL oQ (ah.Jq _);generalize ah.half.getD (y1%16) 0=h1 at *
   generalize y1%16=z1 at *
   generalize y1 / 16 ^^^ h1=y2 at *
   have e4:=UO y2 hy2;have hz2:y2%16<16:=anH _ oQ;have g2:=hHw.out (y2%16) hz2;have e5:=acg y2 _ hy2 (ah.Jq (y2%16));generalize ah.half.getD (y2%16) 0=h2 at *
   generalize y2%16=z2 at *
   generalize y2 / 16 ^^^ h2=y3 at *
   have hcm:(cb:Int)%4294967296=(cb:Int):=by omega
   have anE:(z1:Int)<16:=by omega
   have anF:(z2:Int)<16:=by omega
   clear FM hy1 hy2 hcb;go_wp2
   go_roundg (l.length - (i+1))
   case measure=>omega
   case rel=>exact ⟨i+1,rfl,adi hi',by first|rfl|go_num,by rw [En.out],rfl⟩
  ·obtain rfl:i=l.length:=by omega
   have hic:¬ (l.length:Int)<(l.length:Int):=by omega
   rw [adk]at *
   have hn2:=Zt _ FM;have hfin:ah.EP s l=4294967295 - l.foldl ah.uF t0:=by unfold ah.EP;rw [Ez.out]
   rw [← hfin]at hn2;generalize l.foldl ah.uF t0=x at *
   clear hi hi' FM hfin;go_wp2;go_ret;exact ⟨_,rfl,rfl,rfl⟩
theorem NP (l:Bs) (hH:Ro w0 F Half) (hr:Ro w0 F (bG 1 bv (aA l))) (h:Sat w0 w F) (hl:l.length≤1099511627776) :
  Calls Tryz.prog 95 #[bv] w (aP fun v w'=>v = .int .u32 (ah.crc l:Nat)∧w=w'):=by
 have ha:=aeZ 0 oQ l hH hr h hl;have hcast:((0:Nat):Int)=0:=rfl;rw [hcast]at ha;clear hcast;obtain ⟨a,n,c,rfl,hn,_⟩:=id (hr w h);go_enter Tryz.func95,Tryz.ntmps95;go_wp2_with fail;refine ha.mono ?_;rintro e w1 ⟨v,rfl,rfl,rfl⟩;clear ha;go_wp2;go_ret;exact ⟨_,rfl,rfl,rfl⟩
end
section
variable {w0 w:World}{F:List aH}{m fb nb b r:Nat}{M:ay}{bs:List Nat}{wv v bv:Value}{s:ByteArray}{l:Names}{fs:List bH}{K:Nat}
theorem YN (hM:M.Ok K) (hK:K≤1099511627776) (hl:bs.length=M.files.length) (x:iT) (h:Sat w0 w (vK m M bs fb nb wv++F)) :
  Calls Tryz.prog 129 #[ptr m,.agg #[.string x.fr,.string x.to,nZ bs x]] w (aP fun _ w'=>Sat w0 w' (aJ m (M.link x)::F)):=by
 refine (YM x (h.sel 5 [0,1,4,2,3] rfl rfl) (acz hM.budget hK)).mono ?_;rintro e w1 ⟨v,rfl,wv',hS⟩;refine ⟨v,rfl,aJ.shut (bs:=bs) (fb:=fb) (nb:=nb) (wv:=wv') (by simpa [ay.link] using hl) ?_⟩;exact hS.sel 5 [0,1,3,4,2] rfl rfl
theorem Du (hM:M.Ok K) (hK:K≤1099511627776) (h:Sat w0 w (aJ m M::F)) (s:ByteArray) :
  Calls Tryz.prog 74 #[ptr m,.string s] w (aP fun v w'=>v=errno (M.remove s).2∧Sat w0 w' (aJ m (M.remove s).1::F)):=by
 obtain ⟨bs,fb,nb,wv,hl,hR⟩:=aJ.open h;cases ho:M.off
 ·cases hn:bP M.now s with
  |none=>
   have hf:=zW (s:=s) hR ho hn;have bF:Hid (M.remove s=(M,9)):=by show _=_;simp [ay.remove,ho,hn]
   clear ho hn;go_enter Tryz.func74,Tryz.ntmps74;go_wp2_with (first|(go_at_call 90;refine hf.mono ?_;rintro e w1 ⟨v,rfl,rfl,rfl⟩));go_ret;exact ⟨errno 9,rfl,by rw [bF.out],by rw [bF.out];exact h⟩
  |some i=>
   have hf:=zY (s:=s) hR ho hn;have hst:=BF hR hM.left;cases hstep:M.step.2
   ·rw [hstep]at hst;have bF:Hid (M.remove s=(M.step.1,12)):=by show _=_;simp [ay.remove,ho,hn,hstep]
    clear ho hn hstep;go_enter Tryz.func74,Tryz.ntmps74;go_wp2_with (first|(go_at_call 90;refine hf.mono ?_;rintro e w1 ⟨v,rfl,rfl,rfl⟩)|(go_at_call 128;refine hst.mono ?_;rintro e w1 ⟨v,rfl,rfl,hS1⟩));go_ret;refine ⟨errno 12,rfl,by rw [bF.out],?_⟩;rw [bF.out];exact aJ.shut (bs:=bs) (fb:=fb) (nb:=nb) (wv:=wv) (by rw [M.jL.2.2.2.1];exact hl) (tJ hS1)
   ·rw [hstep]at hst;have bF:Hid (M.remove s=(M.step.1.link ⟨s,ByteArray.empty,0⟩,0)):=by show _=_;simp [ay.remove,ho,hn,hstep]
    have hl':bs.length=M.step.1.files.length:=by rw [M.jL.2.2.2.1];exact hl
    have hlp:nZ bs ⟨s,ByteArray.empty,0⟩ = .pointer none:=by unfold nZ;rw [acr rfl]
    have zo:=uQ hl';have Me:=uQ hlp;clear ho hn hstep hl' hlp;generalize hq:bs.getD i 0=q at hf;have Hq:=uQ hq;clear hq;go_enter Tryz.func74,Tryz.ntmps74;go_wp2_with (first|(go_at_call 90;refine hf.mono ?_;rintro e w1 ⟨v,rfl,rfl,rfl⟩)|(go_at_call 128;fail));refine hst.mono ?_;rintro e w1 ⟨v,rfl,rfl,hS1⟩;have hlk:=YN hM.step hK zo.out ⟨s,ByteArray.empty,0⟩ (tJ hS1);rw [Me.out]at hlk;go_wp2_with (go_at_call 129;go_must (refine hlk.mono ?_);rintro e w2 ⟨v2,rfl,hS2⟩);go_ret;refine ⟨errno 0,rfl,by rw [bF.out],?_⟩;rw [bF.out];exact hS2
 ·have hf:=zX (s:=s) hR ho;have bF:Hid (M.remove s=(M,12)):=by show _=_;simp [ay.remove,ho]
  clear ho;go_enter Tryz.func74,Tryz.ntmps74;go_wp2_with (first|(go_at_call 90;refine hf.mono ?_;rintro e w1 ⟨v,rfl,rfl,rfl⟩));go_ret;exact ⟨errno 12,rfl,by rw [bF.out],by rw [bF.out];exact h⟩
end
section
variable {w0 w W:World}{F:List aH}{m fb nb b r:Nat}{M P:ay}{bs:List Nat}{wv v bv dv av cv nv ov lv:Value}{s:ByteArray}{fs:List bH}{K:Nat}{f:bH}
theorem aew {l:Bs} (h:Sat w0 w (bK v l::F)):lQ v:=by
 rcases Sat.kP h with ⟨rfl,_⟩|⟨b,n',cap',cs,rfl,_,hn,_,hcm,_,_⟩
 ·exact ⟨_,0,0,rfl,abL _,by omega⟩
 ·exact ⟨_,_,_,rfl,hn,hcm⟩
theorem ru {a:Option Addr}{n c:Nat}{l:Bs} (h:Sat w0 w (bK (.slice a n c) l::F)){i:Nat} (hi:i<l.length) (x:UInt8) :
  ∃ g,a=some ⟨g,0,none⟩∧w.cell? ⟨g,i,none⟩=some (.int .u8 (l[i]'hi).toNat)∧w.frozen? ⟨g,i,none⟩=false∧Sat w0 (w.setCell ⟨g,i,none⟩ (.int .u8 x.toNat)) (bK (.slice a n c) (l.set i x)::F):=by
 rcases Sat.kP h with ⟨_,hx,_⟩|⟨g,n',cap',cs,he,h1,h2,h3,h4,h5,h6⟩
 ·have:(aA l).length=0:=by rw [hx];rfl
  rw [aX]at this;omega
 ·cases he;have hg:(aA l)[i]?=some (.int .u8 (l[i]'hi).toNat):=by unfold aA;simp [hi]
  refine ⟨g,rfl,h6.cellAt i _ (mZ h5 hg),h6.oL i,?_⟩;have h7:=h6.set i (.int .u8 x.toNat);refine Sat.kR h7 ?_ h2 (by simpa using h3) h4 ?_
  ·rw [aX,ag6,← aX l];exact h1
  ·rw [Array.toList_setIfInBounds,List.take_set,h5];unfold aA;rw [List.map_set]
theorem EM {l:Bs} (h:Sat w0 w (bK v l::F)):∃ a n c,v = .slice a n c∧n≤c∧c≤9223372036854775807∧n=l.length:=by
 rcases Sat.kP h with ⟨rfl,hx,_⟩|⟨b,n',cap',cs,rfl,hl,hn,hc,hcm,_,_⟩
 ·refine ⟨_,0,0,rfl,abL _,by omega,?_⟩;have:(aA l).length=0:=by rw [hx];rfl
  rw [aX]at this;exact this.symm
 ·refine ⟨_,_,_,rfl,hn,hcm,?_⟩;rw [aX,adb]at hl;exact hl.symm
theorem alV {l:List ByteArray}{i:Nat}{x:ByteArray} (h:l[i]?=some x):(strs l)[i]?=some (.string x):=by
 unfold strs;rw [acE,h];rfl
theorem alX (l:List ByteArray):(strs l).length=l.length:=by unfold strs;simp
def lY (vs:List Value) (bs:List Bs):aH:=stars (List.zipWith bK vs bs)
theorem Vp:∀ (vs:List Value) (bs:List Bs) (v:Value) (b:Bs),vs.length=bs.length→lY (vs++[v]) (bs++[b])=star (bK v b) (lY vs bs)
 |[],[],_,_,_=>rfl
 |[],_::_,_,_,h=>by simp at h
 |_::_,[],_,_,h=>by simp at h
 |c::vs,g::bs,v,b,h=>by
  show star (bK c g) (lY (vs++[v]) (bs++[b]))=_;rw [Vp vs bs v b (by simpa using h),uY];rfl
theorem Vo:∀ (vs:List Value) (bs:List Bs) (i:Nat) (v:Value) (b:Bs),vs[i]?=some v→bs[i]?=some b→∃ G,lY vs bs=star (bK v b) G
 |[],_,_,_,_,h,_=>by cases h
 |_::_,[],_,_,_,_,h=>by cases h
 |c::vs,g::bs,0,v,b,h,k=>by
  cases h;cases k;exact ⟨_,rfl⟩
 |c::vs,g::bs,i+1,v,b,h,k=>by
  obtain ⟨G,hG⟩:=Vo vs bs i v b (by simpa using h) (by simpa using k);refine ⟨star (bK c g) G,?_⟩;show star (bK c g) (lY vs bs)=_;rw [hG,uY]
theorem Ro.more {p:World→Prop}{L:List aH} (h:Ro w0 F p):Ro w0 (L++F) p:=by
 induction L with
 |nil=>exact h
 |cons A L ih=>exact ih.cons
theorem aex {vs:List Value}{rows:List Bs}{i:Nat}{v:Value}{b:Bs} (h1:vs[i]?=some v) (h2:rows[i]?=some b):Ro w0 (lY vs rows::F) (bG 1 v (aA b)):=fun w hw=>by
 obtain ⟨G,hG⟩:=Vo vs rows i v b h1 h2;rw [hG]at hw;exact (Sat.star.1 hw).rd
end
section
variable {w0 w:World}{F:List aH}{v bv:Value}
theorem Dq (x:Nat) (hx:x<18446744073709551616) (h:Sat w0 w F) :
  Calls Tryz.prog 169 #[.int .u64 x,.int .i64 4] w (aP fun v w'=>Sat w0 w' (bK v (ah.le x 4)::F)∧∃ a,v = .slice a 4 4):=by
 have Hx:=uQ hx;clear hx;have hmk:∀ w,(Instr.makeSlice 39 (.int .i64 4) (.int .i64 4)).run Tryz.prog w = .ok (.slice (some ⟨w.heap.size,0,none⟩) 4 4) (w.alloc (.cells #[.int .u8 0,.int .u8 0,.int .u8 0,.int .u8 0] 5)):=fun w=>by kernel_rfl
 go_enter Tryz.func169,Tryz.ntmps169;go_wp2_with fail;have hA:=h.alloc (.cells #[.int .u8 0,.int .u8 0,.int .u8 0,.int .u8 0] 5);have hB:Sat w0 (w.alloc (.cells #[.int .u8 0,.int .u8 0,.int .u8 0,.int .u8 0] 5)) (bK (.slice (some ⟨w.heap.size,0,none⟩) 4 4) [0,0,0,0]::F):=Sat.kR hA rfl (abL _) (abL _) (by unfold maxLen;omega) rfl;obtain ⟨b0,b1,b2,b3,hb0,hb1,hb2,hb3,hle⟩:∃ b0 b1 b2 b3:UInt8,(x:Int)%256=b0.toNat∧(x:Int) / 256%256=b1.toNat∧(x:Int) / 65536%256=b2.toNat∧(x:Int) / 16777216%256=b3.toNat∧ah.le x 4=[b0,b1,b2,b3]:=by
  refine ⟨_,_,_,_,?_,?_,?_,?_,rfl⟩
  all_goals (rw [anL];omega)
 have qL:=uQ hle;clear hle hmk hA;generalize w.heap.size=q at *
 go_loopg [17] 4 (fun g iq wr=>∃ (i:Nat) (l':Bs),g=4 - i∧i≤4∧iq = .int .i64 i∧l'=(match i with|0=>[0,0,0,0]|1=>[b0,0,0,0]|2=>[b0,b1,0,0]|3=>[b0,b1,b2,0]|_=>[b0,b1,b2,b3])∧Sat w0 wr (bK (.slice (some ⟨q,0,none⟩) 4 4) l'::F))
 case atStart=>exact ⟨0,_,rfl,by omega,rfl,rfl,hB⟩
 case round=>
  obtain ⟨i,l',rfl,hi,rfl,hl',hS⟩:=hrel;clear hB;obtain rfl|rfl|rfl|rfl|rfl:i=0∨i=1∨i=2∨i=3∨i=4:=by omega
  ·obtain rfl:l'=[0,0,0,0]:=hl';obtain ⟨g,he,e0,e1,hS5⟩:=ru (i:=0) hS (by simp) b0;cases he;go_wp2_with fail
   go_roundg 3
   case measure=>omega
   case rel=>exact ⟨1,[b0,0,0,0],rfl,by omega,rfl,rfl,hS5⟩
  ·obtain rfl:l'=[b0,0,0,0]:=hl';obtain ⟨g,he,e0,e1,hS5⟩:=ru (i:=1) hS (by simp) b1;cases he;go_wp2_with fail
   go_roundg 2
   case measure=>omega
   case rel=>exact ⟨2,[b0,b1,0,0],rfl,by omega,rfl,rfl,hS5⟩
  ·obtain rfl:l'=[b0,b1,0,0]:=hl';obtain ⟨g,he,e0,e1,hS5⟩:=ru (i:=2) hS (by simp) b2;cases he;go_wp2_with fail
   go_roundg 1
   case measure=>omega
   case rel=>exact ⟨3,[b0,b1,b2,0],rfl,by omega,rfl,rfl,hS5⟩
  ·obtain rfl:l'=[b0,b1,b2,0]:=hl';obtain ⟨g,he,e0,e1,hS5⟩:=ru (i:=3) hS (by simp) b3;cases he;go_wp2_with fail
   go_roundg 0
   case measure=>omega
   case rel=>exact ⟨4,[b0,b1,b2,b3],rfl,by omega,rfl,rfl,hS5⟩
  ·obtain rfl:l'=[b0,b1,b2,b3]:=hl';go_wp2;go_ret;exact ⟨_,rfl,by rw [qL.out];exact hS,_,rfl⟩
end
end Go.Proofs.YtihngncbioofnaaGreatDoor
namespace Go.Proofs.YtihngncbioofnaaGreatDoor
open Go Go.Sl Go.ay Go.ChangeShapes Go.WideShapes Go.RowKit
section
variable {H:Type}{enc:TypeId×Value→H}{P:Program}{W:World}{base:Nat}{spare:Nat→Bool}{held:Bool}
theorem WO {α:Type} (k:Nat) (hk:0<k):∀ (xs:List (List α)) (_:∀ x∈xs,x.length=k) (i:Nat) (y:α),xs.flatten[i]?=some y→∃ x,xs[i / k]?=some x∧x[i%k]?=some y
 |[],_,_,_,h=>by simp at h
 |x::xs,hl,i,y,h=>by
  have hx:=hl x (.head _);rw [anI]at h;rcases amB i k with hi|hi
  ·rw [ac2 oQ]at h;refine ⟨x,?_,?_⟩
   ·rw [Nat.div_eq_of_lt hi];rfl
   ·rw [anU hi];exact h
  ·rw [ac0 oQ,hx]at h;obtain ⟨z,h1,h2⟩:=WO k hk xs (fun q hq=>hl q (.tail _ hq)) (i - k) y h;have e1:i / k=(i - k) / k+1:=by
    conv=>lhs;rw [show i=(i - k)+k by omega]
    rw [Nat.add_div_right _ hk]
   have e2:i%k=(i - k)%k:=Nat.mod_eq_sub_mod hi;exact ⟨z,by rw [e1];exact h1,by rw [e2];exact h2⟩
theorem WQ {α:Type} (k:Nat):∀ (xs:List (List α)) (_:∀ x∈xs,x.length=k),xs.flatten.length=xs.length * k
 |[],_=>by simp
 |x::xs,hl=>by
  rw [anI,aaK,WQ k xs (fun q hq=>hl q (.tail _ hq)),hl x (.head _),ac5,Nat.succ_mul];omega
theorem YR {α:Type}{n:Nat}{p:Nat→α→Prop} (h:∀ i,i<n→∃ x,p i x):∃ l:List α,l.length=n∧∀ i x,l[i]?=some x→p i x:=by
 induction n with
 |zero=>exact ⟨[],rfl,fun i x h=>by simp at h⟩
 |succ n ih=>
  obtain ⟨l,h1,h2⟩:=ih fun i hi=>h i (Nat.lt_succ_of_lt hi);obtain ⟨x,hx⟩:=h n (Nat.lt_succ_self n);refine ⟨l++[x],by simp [h1],fun i y hy=>?_⟩;rcases aoD i n with hlt|rfl|hgt
  ·rw [ac2 oQ]at hy;exact h2 i y hy
  ·rw [ac0 oQ,h1,anm]at hy;cases hy;exact hx
  ·rw [ahF (by simp;omega)]at hy;cases hy
theorem ZN {t e:TypeId}{k fuel:Nat}{v:Value}{x:DataW H×List MemPlace} (ht:P.underlying t=some (.slice e)) (hc:P.cellsOf e=k) (hk:0<k) (h:DataW.trod enc P W base spare held fuel t [v]=some x) :
  ∃ elems:List (List Value),bG k v elems.flatten W∧lQ v∧∀ cs∈elems,cs.length=k∧∃ n y,DataW.trod enc P W base spare held n e cs=some y:=by
 rcases Go.Deep.open_slice ht h with ⟨hcs,_⟩|⟨a,len,cap,m,n,D,Pl,hcs,hb,hl,hm,hmm,_,hx⟩
 ·obtain rfl:v = .slice none 0 0:=by simpa using hcs
  exact ⟨[],wG _ _ _,⟨_,_,_,rfl,abL _,by omega⟩,by simp⟩
 ·obtain rfl:v = .slice (some a) len cap:=by simpa using hcs
  have hlm:len≤m:=by rw [hmm];split <;> omega
  rw [hc]at hx;obtain ⟨l,l1,l2⟩:=YR (n:=len) fun i hi=>hx i oQ;have hlen:∀ cs∈l,cs.length=k:=by
   intro cs hcs;obtain ⟨i,hi,rfl⟩:=anA hcs;obtain ⟨h1,_⟩:=l2 i _ (aaI hi);exact (World.cells?_some h1).2.1
  refine ⟨l,⟨some a,len,cap,rfl,by rw [WQ k l hlen,l1],fun i y hy=>⟨a,rfl,?_⟩⟩,⟨_,_,_,rfl,hl,by unfold maxLen at hm;omega⟩,fun cs hcs=>⟨hlen cs hcs,?_⟩⟩
  ·obtain ⟨cs,h1,h2⟩:=WO k hk l hlen i y hy;obtain ⟨h3,_⟩:=l2 _ _ h1;have h4:=(World.cells?_some h3).2.2 (i%k) (anH _ hk);rw [Go.Deep.add_add,h2]at h4;rw [← h4]
   congr 2
   rw [ahC];exact (Nat.div_add_mod i k).symm
  ·obtain ⟨i,hi,rfl⟩:=anA hcs;obtain ⟨_,h2⟩:=l2 i _ (aaI hi);exact ⟨n,_,h2⟩
theorem ai1 {t:TypeId}{fs:Array Field}{fuel:Nat}{cs:List Value}{x:DataW H×List MemPlace} (ht:P.underlying t=some (.struct fs)) (h:DataW.trod enc P W base spare held fuel t cs=some x) :
  cs.length=P.cellsOf t∧∀ (i:Nat) (f:Field),fs[i]?=some f→∃ n y,DataW.trod enc P W base spare held n f.type ((cs.drop f.offset).take (P.cellsOf f.type))=some y:=by
 obtain ⟨xs,n,_,_,hl,hxl,hf⟩:=DataW.trod_struct ht h;refine ⟨hl,fun i f hi=>⟨n,?_⟩⟩;have hlt:i<xs.length:=by rw [hxl];exact (amM.1 hi).1
 exact ⟨xs[i],by rw [hf i f hi];exact aaI hlt⟩
theorem PK {α β:Type}{f:α→β}{p:α→Prop}:∀ (l:List β) (_:∀ y∈l,∃ x,f x=y∧p x),∃ xs:List α,xs.map f=l∧∀ x∈xs,p x
 |[],_=>⟨[],rfl,by simp⟩
 |y::l,h=>by
  obtain ⟨x,h1,h2⟩:=h y (.head _);obtain ⟨xs,h3,h4⟩:=PK l fun z hz=>h z (.tail _ hz);refine ⟨x::xs,by simp [h1,h3],fun z hz=>?_⟩;rcases acK.1 hz with rfl|hz
  ·exact h2
  ·exact h4 z hz
def GI (zs:List Int):Bs:=zs.map fun z=>UInt8.ofNat z.toNat
theorem Vs {zs:List Int} (h:∀ z∈zs,(Lit.int .u8 z).wf=true):aA (GI zs)=zs.map (.int .u8):=by
 unfold aA GI;rw [aee];apply amJ;intro z hz;have hb:=bounds_u8 (h z hz);simp only [Function.comp,Value.int.injEq,true_and];rw [anL];omega
theorem Yv {t e:TypeId}{k:IntKind}{fuel:Nat}{v:Value}{x:DataW H×List MemPlace} (ht:P.underlying t=some (.slice e)) (he:P.underlying e=some (.int k)) (hc:P.cellsOf e=1) (h:DataW.trod enc P W base spare held fuel t [v]=some x) :
  ∃ l:List Int,bG 1 v (l.map (.int k)) W∧lQ v∧∀ z∈l,(Lit.int k z).wf=true:=by
 obtain ⟨elems,h1,h2,h3⟩:=ZN ht hc oQ h;obtain ⟨l,h4,h5⟩:=PK (f:=fun z:Int=>[Value.int k z]) (p:=fun z=>(Lit.int k z).wf=true) elems fun cs hcs=>by
  obtain ⟨_,n,y,h6⟩:=h3 cs hcs;obtain ⟨z,hz,_,hw⟩:=aok he h6;exact ⟨z,hz.symm,hw⟩
 refine ⟨l,?_,h2,h5⟩;rw [← h4]at h1;have:(l.map fun z:Int=>[Value.int k z]).flatten=l.map (.int k):=by
  clear h1 h4 h5
  induction l with
  |nil=>rfl
  |cons z l ih=>simp only [acS,anI,ih];rfl
 rw [this]at h1;exact h1
theorem aho {t e:TypeId}{fuel:Nat}{v:Value}{x:DataW H×List MemPlace} (ht:P.underlying t=some (.slice e)) (he:P.underlying e=some (.int .u8)) (hc:P.cellsOf e=1) (h:DataW.trod enc P W base spare held fuel t [v]=some x) :
  ∃ l:Bs,bG 1 v (aA l) W∧lQ v:=by
 obtain ⟨l,h1,h2,h3⟩:=Yv ht he hc h;exact ⟨GI l,by rw [Vs h3];exact h1,h2⟩
theorem ahp {t e:TypeId}{fuel:Nat}{v:Value}{x:DataW H×List MemPlace} (ht:P.underlying t=some (.slice e)) (he:P.underlying e=some (.int .i64)) (hc:P.cellsOf e=1) (h:DataW.trod enc P W base spare held fuel t [v]=some x) :
  ∃ l:List Int,bG 1 v (ints l) W∧lQ v∧∀ z∈l,qo z:=by
 obtain ⟨l,h1,h2,h3⟩:=Yv ht he hc h;exact ⟨l,h1,h2,fun z hz=>bounds_i64 (h3 z hz)⟩
theorem aeG {w:World}{a:Addr}{v:Value} (h:Sat W w [Sl.old W]) (hc:W.cell? a=some v):w.cell? a=some v:=by
 have hlt:a.block<W.heap.size:=by
  rcases amB a.block W.heap.size with h1|h1
  ·exact h1
  ·unfold World.cell? at hc;rw [aoa h1]at hc;simp at hc
 unfold World.cell? at hc ⊢;rw [h.old hlt];exact hc
theorem Qq {v:Value}{k:Nat}{xs:List Value} (h:bG k v xs W):Ro W [Sl.old W] (bG k v xs):=by
 intro w hw;obtain ⟨a,n,c,he,hl,hx⟩:=h;refine ⟨a,n,c,he,hl,fun i x hi=>?_⟩;obtain ⟨b,hb,hc⟩:=hx i x hi;exact ⟨b,hb,aeG hw hc⟩
theorem own:ownKnob Tryz.prog.godebug=none:=by kernel_rfl
theorem laidOut:laidOutB Tryz.prog=true:=by kernel_rfl
end
end Go.Proofs.YtihngncbioofnaaGreatDoor
namespace Go.Proofs.YtihngncbioofnaaGreatDoor
open Go Go.Sl Go.ay Go.MapKept Go.RowKit
section
variable {w0 w:World}{F:List aH}{v bv dv:Value}{q:Nat}
section
variable {P:Program}
theorem aaU {e:TypeId}{k:IntKind} (he:P.underlying e=some (.int k)) (xs:Array Value) (i:Nat) (v:Value) (hv:xs[i]?=some v) (w:World):(part e xs i).run P w = .ok v w:=by
 unfold part isAgg;simp [acN,agK he,hv]
theorem Q7 (d:Nat){e:TypeId}{k:IntKind} (he:P.underlying e=some (.int k)) (ks ls:List Int):∀ (is:List Nat),(∀ i∈is,i<ks.length∧i<ls.length)→∀ w,
  (Op.eqItems (d+1) e 1 (ks.map (.int k)).toArray (ls.map (.int k)).toArray is).run P w = .ok (is.all fun i=>ks.getD i 0==ls.getD i 0) w
 |[],_,w=>by simp [Op.eqItems]
 |i::is,h,w=>by
  obtain ⟨h1,h2⟩:=h i (.head _);have a1:((ks.map (Value.int k)).toArray)[i * 1]?=some (.int k (ks.getD i 0)):=by
   rw [adb,abY,acE,aaI h1,acG,aaI h1];rfl
  have a2:((ls.map (Value.int k)).toArray)[i * 1]?=some (.int k (ls.getD i 0)):=by
   rw [adb,abY,acE,aaI h2,acG,aaI h2];rfl
  unfold Op.eqItems;simp only [acN,aaU he _ _ _ a1,aaU he _ _ _ a2,acB,run_equalIn_int w d e k k _ _ he];have ih:=Q7 d he ks ls is (fun j hj=>h j (.tail _ hj)) w;cases hb:(ks.getD i 0==ls.getD i 0)
  ·simp only [aoI,hb,Bool.not_false,anJ,ac1,Bool.false_and]
  ·simp only [aoI,hb,Bool.not_true,afy,anY,ih,aoJ]
theorem all_eq (ks ls:List Int) (h:ks.length=ls.length):((List.range ks.length).all fun i=>ks.getD i 0==ls.getD i 0)=decide (ks=ls):=by
 rw [anu,aeD,acF];constructor
 ·intro hh;apply List.ext_getElem h;intro i h1 h2;have:=hh i (List.mem_range.2 h1);rw [ai7,acG,acG,aaI h1,aaI h2]at this;exact this
 ·rintro rfl i _;simp
theorem akN {t e:TypeId}{n:Nat}{k:IntKind}{i:TypeInfo} (hu:P.underlying t=some (.array n e)) (he:P.underlying e=some (.int k)) (hi:P.info? e=some i) (hc:P.cellsOf e=1) (ks ls:List Int) (h1:ks.length=n) (h2:ls.length=n) (w:World) :
  (binOp .neq t (.agg (ks.map (.int k)).toArray) (.agg (ls.map (.int k)).toArray)).run P w = .ok (.bool (!decide (ks=ls))) w:=by
 have h:=run_equalIn_array (P:=P) w 9999 (ks.map (.int k)).toArray (ls.map (.int k)).toArray hu hi;rw [hc,Q7 9998 he ks ls (List.range n) (fun i hi=>by have:=List.mem_range.1 hi;omega)]at h;rw [run_neq_struct,h,← h1,all_eq ks ls oQ]
 rfl
theorem akF {t e:TypeId}{n:Nat}{k:IntKind}{i:TypeInfo} (hu:P.underlying t=some (.array n e)) (he:P.underlying e=some (.int k)) (hi:P.info? e=some i) (hc:P.cellsOf e=1) (ks ls:List Int) (h1:ks.length=n) (h2:ls.length=n) (w:World) :
  (Op.equalIn 10000 t (.agg (ks.map (.int k)).toArray) (.agg (ls.map (.int k)).toArray)).run P w = .ok (decide (ks=ls)) w:=by
 have h:=run_equalIn_array (P:=P) w 9999 (ks.map (.int k)).toArray (ls.map (.int k)).toArray hu hi;rw [hc,Q7 9998 he ks ls (List.range n) (fun i hi=>by have:=List.mem_range.1 hi;omega)]at h;rw [h,← h1,all_eq ks ls oQ]
theorem akM (w:World) (g off:Nat) (t ty:TypeId) (cs ks:Array Value) (fr:Nat×Nat) (d:TypeDesc) (hg:w.heap[g]?=some (.cells cs t fr)) (hk:∀ j v,ks[j]?=some v→cs[off+j]?=some v)
  (hu:P.underlying ty=some d) (hd:(match d with | .struct _ | .array _ _=>true|_=>false)=true) (hi:(P.info? ty).map (·.size)=some ks.size) :
  (loadVar ty ⟨g,off,none⟩).run P w = .ok (.agg ks) w:=by
 have hl:(loadCells ⟨g,off,none⟩ ks.toList.length).run P w = .ok ks.toList.toArray w:=
  run_loadCells_list (P:=P) w ⟨g,off,none⟩ ks.toList (fun j v hv=>by
   have hadd:(⟨g,off,none⟩:Addr).add j=⟨g,off+j,none⟩:=by unfold Addr.add;split <;> simp_all
   rw [hadd,cell_of_row w g _ cs t fr hg];exact hk j v (by simpa using hv))
 cases hq:P.info? ty with
 |none=>simp [hq]at hi
 |some i=>
  have hs:i.size=ks.size:=by simpa [hq] using hi
  have hagg:(isAgg ty).run P w = .ok true w:=by
   unfold isAgg;rw [acN,agK hu w];cases d <;> simp_all
  simp only [acJ,Array.toArray_toList]at hl;simp [loadVar,acN,hagg,sizeOf,typeInfo,hq,hs,hl]
theorem S9 {ops:Array Oper}{rest:List Oper}{o:Oper}{a:Act}{w:World}{Q:Exit→Act→World→Prop} (hgd:o.guard=none) (ty:TypeId) (x:Operand) (ho:o.op = .load ty x)
  (g off:Nat) (hx:a.eval x = .pointer (some ⟨g,off,none⟩)) (t:TypeId) (cs ks:Array Value) (fr:Nat×Nat) (d:TypeDesc) (hg:w.heap[g]?=some (.cells cs t fr)) (hk:∀ j v,ks[j]?=some v→cs[off+j]?=some v)
  (hu:P.underlying ty=some d) (hd:(match d with | .struct _ | .array _ _=>true|_=>false)=true) (hi:(P.info? ty).map (·.size)=some ks.size)
  (h:wpList P ops Q rest (a.put o.dst (.agg ks)) w):wpList P ops Q (o::rest) a w:=
 aeB hgd fun _ hK=>by
  unfold Oper.wp execOp;simp only [ho,hx,Instr.loadAt,Instr.sureAddr,acN,ac1,acB,akM w g off t ty cs ks fr d hg hk hu hd hi];exact hK _ _ h
end
def kX (x:ah.aG) (dv:Value):List Value:= .int .i64 x.tag::(aA x.key++[dv])
def dU (x:ah.aG) (dv:Value):Array Value:=(kX x dv).toArray
theorem lT (x:ah.aG) (dv:Value) (hk:x.key.length=32):(dU x dv).size=34:=by unfold dU kX;simp [aA,hk]
theorem zV (x:ah.aG) (dv:Value):(dU x dv)[0]?=some (.int .i64 x.tag):=rfl
theorem EU (x:ah.aG) (dv:Value) (hk:x.key.length=32):(dU x dv)[33]?=some dv:=by
 unfold dU kX;rw [abY,ah9,ac0 (by rw [aX];omega),aX,hk];rfl
theorem Wv (x:ah.aG) (dv:Value) (hk:x.key.length=32):∀ j v,(aA x.key).toArray[j]?=some v→(dU x dv)[1+j]?=some v:=by
 intro j v h;rw [abY]at h;have hj:j<(aA x.key).length:=(abW.1 h).1;unfold dU kX;rw [abY,aoh,ah9,ac2 hj];exact h
theorem IX (k:Bs):aA k=(k.map fun b=>(b.toNat:Int)).map (.int .u8):=by unfold aA;rw [aee];rfl
theorem Yz {k l:Bs} (h:(k.map fun b=>(b.toNat:Int))=l.map fun b=>(b.toNat:Int)):k=l:=by
 induction k generalizing l with
 |nil=>cases l with
  |nil=>rfl
  |cons=>simp at h
 |cons a k ih=>cases l with
  |nil=>simp at h
  |cons b l=>
   simp only [acS,List.cons.injEq]at h;rw [ih h.2]
   congr 1
   exact UInt8.toNat_inj.1 oQ
theorem Zd (k l:Bs) (hk:k.length=32) (hl:l.length=32) (w:World):(binOp .neq 50 (.agg (aA k).toArray) (.agg (aA l).toArray)).run Tryz.prog w = .ok (.bool (!decide (k=l))) w:=by
 obtain ⟨i,hi,_⟩:=uK;have:=akN (P:=Tryz.prog) Tryz.underlying50 Tryz.underlying5 hi au (k.map fun b=>(b.toNat:Int)) (l.map fun b=>(b.toNat:Int)) (by simpa using hk) (by simpa using hl) w;rw [IX,IX,this]
 congr 3
 rw [anu,acF,acF];exact ⟨fun h=>Yz h,fun h=>by rw [h]⟩
theorem Wy (k l:Bs) (hk:k.length=32) (hl:l.length=32) (w:World):(Op.equalIn 10000 50 (.agg (aA k).toArray) (.agg (aA l).toArray)).run Tryz.prog w = .ok (decide (k=l)) w:=by
 obtain ⟨i,hi,_⟩:=uK;have:=akF (P:=Tryz.prog) Tryz.underlying50 Tryz.underlying5 hi au (k.map fun b=>(b.toNat:Int)) (l.map fun b=>(b.toNat:Int)) (by simpa using hk) (by simpa using hl) w;rw [IX,IX,this]
 congr 2
 rw [eq_iff_iff];exact ⟨fun h=>Yz h,fun h=>by rw [h]⟩
theorem ani:(aA ah.zero32).toArray=#[.int .u8 0,.int .u8 0,.int .u8 0,.int .u8 0,.int .u8 0,.int .u8 0,.int .u8 0,.int .u8 0,.int .u8 0,.int .u8 0,.int .u8 0,.int .u8 0,.int .u8 0,.int .u8 0,.int .u8 0,.int .u8 0,.int .u8 0,.int .u8 0,.int .u8 0,.int .u8 0,.int .u8 0,.int .u8 0,.int .u8 0,.int .u8 0,.int .u8 0,.int .u8 0,.int .u8 0,.int .u8 0,.int .u8 0,.int .u8 0,.int .u8 0,.int .u8 0]:=rfl
theorem afO (k:Bs) (hk:k.length=32) (w:World):(Op.equalIn 10000 50 (.agg (aA k).toArray) (.agg #[.int .u8 0,.int .u8 0,.int .u8 0,.int .u8 0,.int .u8 0,.int .u8 0,.int .u8 0,.int .u8 0,.int .u8 0,.int .u8 0,.int .u8 0,.int .u8 0,.int .u8 0,.int .u8 0,.int .u8 0,.int .u8 0,.int .u8 0,.int .u8 0,.int .u8 0,.int .u8 0,.int .u8 0,.int .u8 0,.int .u8 0,.int .u8 0,.int .u8 0,.int .u8 0,.int .u8 0,.int .u8 0,.int .u8 0,.int .u8 0,.int .u8 0,.int .u8 0])).run Tryz.prog w = .ok (decide (k=ah.zero32)) w:=by
 rw [← ani];exact Wy k _ hk rfl w
end
section
variable {w0 w:World}{F:List aH}{v bv dv:Value}{q:Nat}
theorem Vy (x:ah.aG) (hk:x.key.length=32) (a:Option Addr) (c:Nat) (h:Sat w0 w F) :
  Calls Tryz.prog 167 #[.agg (dU x (.slice a x.data.length c))] w (aP fun v w'=>v=errno (ah.check x)∧Sat w0 w' F):=by
 have hA:=h.alloc (.cells (dU x (.slice a x.data.length c)) 52);have c0:=hA.cellAt 0 _ (zV x _);have zQ:=hA.cellAt 33 _ (EU x _ hk);have hat:=hA.at;have hnk:=afO x.key hk;have hkk:=Wv x (.slice a x.data.length c) hk;have Eh:=uQ hkk;have qI:=uQ hat;have hks:(aA x.key).toArray.size=32:=by simp [aA,hk]
 have iD:=uQ hks;have HA:=uQ hA.drop;clear hkk hat hks hA;generalize hL:x.data.length=L at *
 have HL:=uQ hL;clear hL;by_cases t2:x.tag=2
 ·rw [t2]at c0;by_cases hz:x.key=ah.zero32
  ·have hzd:decide (x.key=ah.zero32)=true:=adt hz;have Hz:=uQ hz;clear hz;by_cases h0:0<L
   ·have Hf:=uQ (show ah.check x=4 by unfold ah.check;simp [t2,Hz.out,HL.out,h0]);have h0i:(0:Int)<(L:Int):=by omega
    go_enter Tryz.func167,Tryz.ntmps167;go_wp2_with (refine S9 (P:=Tryz.prog) aj 50 _ aj _ 1 aj _ _ (aA x.key).toArray (0,0) _ qI.out Eh.out Tryz.underlying50 aj (by rw [iD.out];kernel_rfl) ?_);go_ret;exact ⟨errno 4,rfl,by rw [Hf.out],HA.out⟩
   ·obtain rfl:L=0:=by omega
    have Hf:=uQ (show ah.check x=0 by unfold ah.check;simp [t2,Hz.out,HL.out]);go_enter Tryz.func167,Tryz.ntmps167;go_wp2_with (refine S9 (P:=Tryz.prog) aj 50 _ aj _ 1 aj _ _ (aA x.key).toArray (0,0) _ qI.out Eh.out Tryz.underlying50 aj (by rw [iD.out];kernel_rfl) ?_);go_ret;exact ⟨errno 0,rfl,by rw [Hf.out],HA.out⟩
  ·have hzd:decide (x.key=ah.zero32)=false:=ac4 hz;have Hf:=uQ (show ah.check x=4 by unfold ah.check;simp [t2,hz]);clear hz;go_enter Tryz.func167,Tryz.ntmps167;go_wp2_with (refine S9 (P:=Tryz.prog) aj 50 _ aj _ 1 aj _ _ (aA x.key).toArray (0,0) _ qI.out Eh.out Tryz.underlying50 aj (by rw [iD.out];kernel_rfl) ?_);go_ret;exact ⟨errno 4,rfl,by rw [Hf.out],HA.out⟩
 ·have t2b:(x.tag==2)=false:=by simpa using t2
  clear hnk;by_cases t0:x.tag=0
  ·rw [t0]at c0;by_cases hb:16384<L
   ·have Hf:=uQ (show ah.check x=5 by unfold ah.check;simp [t0,HL.out,hb]);have hbi:(16384:Int)<(L:Int):=by omega
    go_enter Tryz.func167,Tryz.ntmps167;go_wp2;go_ret;exact ⟨errno 5,rfl,by rw [Hf.out],HA.out⟩
   ·have Hf:=uQ (show ah.check x=0 by unfold ah.check;simp [t0,HL.out,hb]);have hbi:¬ (16384:Int)<(L:Int):=by omega
    go_enter Tryz.func167,Tryz.ntmps167;go_wp2;go_ret;exact ⟨errno 0,rfl,by rw [Hf.out],HA.out⟩
  ·have t0b:(x.tag==0)=false:=by simpa using t0
   by_cases t1:x.tag=1
   ·rw [t1]at c0;by_cases h0:0<L
    ·have Hf:=uQ (show ah.check x=4 by unfold ah.check;simp [t1,HL.out,h0]);have h0i:(0:Int)<(L:Int):=by omega
     go_enter Tryz.func167,Tryz.ntmps167;go_wp2;go_ret;exact ⟨errno 4,rfl,by rw [Hf.out],HA.out⟩
    ·obtain rfl:L=0:=by omega
     have Hf:=uQ (show ah.check x=0 by unfold ah.check;simp [t1,HL.out]);go_enter Tryz.func167,Tryz.ntmps167;go_wp2;go_ret;exact ⟨errno 0,rfl,by rw [Hf.out],HA.out⟩
   ·have t1b:(x.tag==1)=false:=by simpa using t1
    have Hf:=uQ (show ah.check x=4 by unfold ah.check;simp [t0,t1,t2]);clear t0 t1 t2;generalize x.tag=T at *
    go_enter Tryz.func167,Tryz.ntmps167;go_wp2;go_ret;exact ⟨errno 4,rfl,by rw [Hf.out],HA.out⟩
end
section
variable {w0 w:World}{F:List aH}{v bv dv:Value}{q:Nat}
theorem Y6 (l c:Nat) (h1:l≤c) (h2:c≤1099511627776) (w:World) :
  (Instr.makeSlice 39 (.int .i64 l) (.int .i64 c)).run Tryz.prog w = .ok (.slice (some ⟨w.heap.size,0,none⟩) l c) (w.alloc (.cells (madeCells #[.int .u8 0] c) 5)):=by
 obtain ⟨i,hi,hz0,hz1,hz2⟩:=uK;have:=run_make (P:=Tryz.prog) w 39 5 i _ Tryz.underlying39 hi hz0 .i64 .i64 (l:Int) (c:Int) oQ oQ (by rw [hz2];omega) oQ;simp only [Int.toNat_natCast,hz1,adb]at this;exact this
theorem Y4 {l c:Nat} (h1:l≤c) (h2:c≤1099511627776) (h:Sat w0 w (pt q (.cells (madeCells #[.int .u8 0] c) 5 (0,0))::F)):Sat w0 w (bK (.slice (some ⟨q,0,none⟩) l c) (List.replicate l 0)::F):=by
 refine Sat.kR h (by rw [aX,adI,adb]) h1 (by rw [size_madeCells,adb];exact abL _) (by unfold maxLen;omega) ?_;rw [toList_madeCells_one,adb,List.take_replicate,aoe h1];unfold aA;rw [List.map_replicate];rfl
section
variable {ops:Array Oper}{rest:List Oper}{o:Oper}{a:Act}{Q:Exit→Act→World→Prop}{sv:Value}
theorem ab9 (hgd:o.guard=none) (d s:Operand)
  (ho:o.op = .call { callee:= .builtin .copy,args:=#[d,s],argTypes:=#[39,39] }) (g n c:Nat) (hd:a.eval d = .slice (some ⟨g,0,none⟩) n c) (hs:a.eval s=sv)
  {l x:Bs} (h:Sat w0 w (bK (.slice (some ⟨g,0,none⟩) n c) l::F)) (hx:bG 1 sv (aA x) w) (h0:x≠[]) (hl:x.length≤l.length)
  (hK:∀ w',Sat w0 w' (bK (.slice (some ⟨g,0,none⟩) n c) (x++l.drop x.length)::F)→wpList Tryz.prog ops Q rest (a.put o.dst (goInt x.length)) w'):wpList Tryz.prog ops Q (o::rest) a w:=by
 obtain ⟨i,hi,hz0,hz1,hz2⟩:=uK;obtain ⟨sa,sn,sc,rfl,hsl,hcell⟩:=hx;rw [aX,adb]at hsl;obtain ⟨ad,rfl⟩:∃ ad,sa=some ad:=by
  cases x with
  |nil=>exact absurd rfl h0
  |cons b x=>obtain ⟨ad,h1,_⟩:=hcell 0 _ rfl;exact ⟨ad,h1⟩
 rcases Sat.kP h with ⟨he,_⟩|⟨g',n',c',cs,he,e1,e2,e3,e4,e5,hp⟩
 ·cases he
 ·cases he;rw [aX,adb]at e1;rw [adb]at e3 e5;have hsz:(Tryz.prog.info? 5).map (·.size)=some 1:=by rw [hi];simp [hz1]
  refine wpList_copy_own hgd d s _ _ ho 5 Tryz.underlying39 hsz g 0 n c ad sn sc hd hs cs 5 hp.at (aA x) (by rw [aX];show _=min sn n;omega) (fun j v hj=>by obtain ⟨b,hb,hc⟩:=hcell j v hj;cases hb;exact hc) (by rw [aX];omega) (vS _) ?_;rw [aX];refine hK _ ?_;have h1:=hp.turn (w':=w.setRow g (cs.toList.take 0++(aA x++cs.toList.drop (0+x.length))).toArray) rfl rfl rfl (by simp) (setRow_heap w g cs _ _ _ hp.at) (fun j hj _=>setRow_other w g j _ hj);refine Sat.kR h1 ?_ e2 ?_ e4 ?_
  ·rw [aX,aaK,acL,adb];omega
  ·simp only [adH,adl,abX,aaK,acL,aX,acJ];omega
  ·simp only [adH,adl,acT,adb];unfold aA at e5 ⊢;rw [acI,List.map_drop,← e5,List.take_append,abl,acX (by simp;omega),List.drop_take]
end
theorem agk (x:ah.aG) (hk:x.key.length=32) (a:Option Addr) (c:Nat) (h:Sat w0 w F) (hL:x.data.length≤1099511627776) :
  Calls Tryz.prog 168 #[.agg (dU x (.slice a x.data.length c))] w (aP fun v w'=>v = .int .i64 (ah.size x:Nat)∧Sat w0 w' F):=by
 have hA:=h.alloc (.cells (dU x (.slice a x.data.length c)) 52);have hch:=Vy x hk a c hA;have hat:=hA.at;have hsz:=lT x (.slice a x.data.length c) hk;have qI:=uQ hat;have iC:=uQ hsz;have Hk:=uQ hk;have HL:=uQ hL;clear hat hsz hk hA hL;go_enter Tryz.func168,Tryz.ntmps168;go_wp2_with (refine wpList_load_row (P:=Tryz.prog) aj 52 _ aj _ aj _ _ (0,0) _ qI.out Tryz.underlying52 aj (by rw [iC.out];kernel_rfl) ?_);refine hch.mono ?_;rintro e w1 ⟨v,rfl,rfl,hS1⟩;have c0:=hS1.cellAt 0 _ (zV x _);have zQ:=hS1.cellAt 33 _ (EU x _ Hk.out);clear hch;by_cases hc:ah.check x=0
 ·by_cases ht:x.tag=2
  ·have Hf:=uQ (show ah.size x=9 by unfold ah.size;simp [hc,ht]);rw [hc];rw [ht]at c0;go_wp2;go_ret;exact ⟨.int .i64 9,rfl,by rw [Hf.out];rfl,hS1.drop⟩
  ·have Hf:=uQ (show ah.size x=41+x.data.length by unfold ah.size;simp [hc,ht]);have htb:(x.tag==2)=false:=by simpa using ht
   have hwr:IntKind.i64.wrap (41+(x.data.length:Int))=41+(x.data.length:Int):=acC _ (by have:=HL.out;omega);rw [hc];clear ht;generalize x.tag=T at *
   go_wp2;go_ret;exact ⟨.int .i64 (41+(x.data.length:Int)),rfl,by rw [Hf.out];rfl,hS1.drop⟩
 ·have Hf:=uQ (show ah.size x=0 by unfold ah.size;simp [hc]);have hcb:(ah.check x==0)=false:=by simpa using hc
  clear hc;generalize ah.check x=E at *
  go_wp2;go_ret;exact ⟨.int .i64 0,rfl,by rw [Hf.out];rfl,hS1.drop⟩
end
end Go.Proofs.YtihngncbioofnaaGreatDoor
