import Derived.Test.YtjbhhbnopnmcnaaGreatDoorJ6
set_option linter.unusedVariables false
set_option maxHeartbeats 128000000
namespace Go.Seg
open Go.Med
structure Alike (M M':Med):Prop where
 now:M'.now=M.now
 room:M'.room=M.room
 off:M'.off=M.off
 bytes:∀ p∈M.now,(M'.file p.2).now=(M.file p.2).now
theorem Alike.refl (M:Med):Alike M M:=⟨rfl,rfl,rfl,fun _ _=>rfl⟩
theorem Alike.trans {A B C:Med} (h:Alike A B) (k:Alike B C):Alike A C:=
 ⟨k.now.trans h.now,k.room.trans h.room,k.off.trans h.off,fun p hp=>(k.bytes p (by rw [h.now];exact hp)).trans (h.bytes p hp)⟩
theorem Alike.used {M M':Med} (h:Alike M M'):M'.used=M.used:=by
 unfold Med.used;rw [h.now]
 exact congrArg List.sum (List.map_congr_left fun p hp=>by rw [h.bytes p hp])
theorem Alike.all {M M':Med} (h:Alike M M') (s:ByteArray):M'.all s=M.all s:=by
 unfold Med.all;rw [h.off,h.now]
 cases hg:nget M.now s with
 |none=>rfl
 |some i=>simp only;rw [h.bytes (s,i) (nget_mem hg)]
theorem sync_alike {M:Med}{K:Nat} (ok:M.Ok K) (q:Quiet M) (s:ByteArray):Alike M (M.sync s).1:=by
 cases hg:nget M.now s with
 |none=>
  have:M.sync s=(M,9):=by unfold Med.sync;rw [q.off,hg];rfl
  rw [this];exact Alike.refl M
 |some i=>
  rw [q.sync_eq hg]
  refine ⟨rfl,rfl,rfl,fun p hp=>?_⟩
  show ((M.setFile i _).file p.2).now=_
  rw [file_set (ok.nowOk.ids _ (nget_mem hg))]
  split
  ·rename_i e;rw [e];rfl
  ·rfl
theorem append_cases {M:Med} (q:Quiet M) (s:ByteArray) (b:Bs) :
  nget M.now s=none∧M.append s b=(M,9)∨∃ i,nget M.now s=some i∧((M.room:Int) - M.used<b.length∧M.append s b=(M,11)∨¬ (M.room:Int) - M.used<b.length∧M.append s b=(M.setFile i ((M.file i).do ⟨false,0,b⟩),0)):=by
 unfold Med.append
 rw [q.off,q.step]
 cases hg:nget M.now s with
 |none=>exact .inl ⟨rfl,rfl⟩
 |some i=>
  refine .inr ⟨i,rfl,?_⟩
  simp only [Bool.false_eq_true,if_false,Bool.true_eq_false]
  by_cases h:(M.room:Int) - M.used<b.length
  ·exact .inl ⟨h,by rw [if_pos h]⟩
  ·exact .inr ⟨h,by rw [if_neg h]⟩
theorem create_cases {M:Med} (q:Quiet M) (s:ByteArray) :
  (M.create s).2≠0∧(M.create s).2≠11∧(M.create s).1=M∨good s=true∧nget M.now s=none∧M.now.length<500∧M.create s=({ M with files:=M.files++[Fil.new],now:=nput M.now s M.files.length,waits:=M.waits++[⟨ByteArray.empty,s,M.files.length⟩] },0):=by
 unfold Med.create
 rw [q.off,q.step]
 simp only [Bool.false_eq_true,if_false,Bool.true_eq_false]
 by_cases h1:good s=false
 ·rw [if_pos h1];exact .inl ⟨by simp,by simp,rfl⟩
 rw [if_neg h1]
 by_cases h2:(nget M.now s).isSome=true
 ·rw [if_pos h2];exact .inl ⟨by simp,by simp,rfl⟩
 rw [if_neg h2]
 by_cases h3:500≤M.now.length
 ·rw [if_pos h3];exact .inl ⟨by simp,by simp,rfl⟩
 rw [if_neg h3]
 have hg:good s=true:=by simpa using h1
 refine .inr ⟨hg,by simpa using h2,by omega,?_⟩
 unfold Med.link Lnk.on
 simp only [if_true,if_neg (good_ne hg)]
 rw [q.off]
theorem remove_quiet {M:Med} (q:Quiet M){s:ByteArray}{i:Nat} (h:nget M.now s=some i):M.remove s=(M.link ⟨s,ByteArray.empty,0⟩,0):=by
 unfold Med.remove
 rw [q.off,q.step,h]
 simp
theorem nget_ne {l:Names}{s t:ByteArray} (h:s≠t):nget (ndel l t) s=nget l s:=by
 induction l with
 |nil=>rfl
 |cons p l ih=>
  unfold nget ndel at *
  rw [List.filter_cons]
  by_cases e:p.1=t
  ·rw [if_neg (by simp [bne,beq_ba,e])]
   rw [ih,List.find?_cons]
   have:(p.1==s)=false:=by rw [beq_ba,e];exact decide_eq_false (fun hh=>h hh.symm)
   rw [this]
  ·rw [if_pos (by simp [beq_ba,bne,e]),List.find?_cons,List.find?_cons]
   cases (p.1==s)
   ·exact ih
   ·rfl
theorem nget_ins_ne {l:Names}{s t:ByteArray}{i:Nat} (h:s≠t):nget (nins l t i) s=nget l s:=by
 have ht:(t==s)=false:=by rw [beq_ba];exact decide_eq_false (fun hh=>h hh.symm)
 induction l with
 |nil=>unfold nins nget;simp [ht]
 |cons p l ih=>
  unfold nins
  split
  ·unfold nget;rw [List.find?_cons,ht]
  ·unfold nget at *
   rw [List.find?_cons,List.find?_cons]
   cases (p.1==s)
   ·exact ih
   ·rfl
theorem nget_put_ne {l:Names}{s t:ByteArray}{i:Nat} (h:s≠t):nget (nput l t i) s=nget l s:=by
 unfold nput;rw [nget_ins_ne h,nget_ne h]
theorem nget_put_self {l:Names} (hs:Srt l) (s:ByteArray) (i:Nat):nget (nput l s i) s=some i:=
 nget_of_mem (hs.put s i).keys ((nput_perm l s i).mem_iff.2 (.head _))
theorem ndel_ins (l:Names) (s:ByteArray) (i:Nat):ndel (nins l s i) s=ndel l s:=by
 induction l with
 |nil=>unfold nins ndel;simp [bne,beq_ba]
 |cons p l ih=>
  unfold nins
  split
  ·unfold ndel;rw [List.filter_cons,if_neg (by simp [bne,beq_ba])]
  ·unfold ndel at *
   rw [List.filter_cons,List.filter_cons,ih]
theorem ndel_put {l:Names}{s:ByteArray}{i:Nat} (h:nget l s=none):ndel (nput l s i) s=l:=by
 unfold nput;rw [ndel_ins,ndel_none h,ndel_none h]
structure Calm (K room:Nat) (M:Med):Prop where
 ok:M.Ok K
 quiet:Quiet M
 dst:Dst M
 used:M.used≤M.room
 room:M.room=room
section
variable {K r:Nat}{M:Med}{L:Log}
theorem Calm.mono {K':Nat} (h:Calm K r M) (hk:K≤K'):Calm K' r M:=⟨h.ok.mono hk,h.quiet,h.dst,h.used,h.room⟩
theorem Calm.new (K r:Nat) (h:r≤16777216):Calm K r (new r):=⟨Med.Ok.new K r h,Quiet.new r,List.nodup_nil,Nat.zero_le _,rfl⟩
theorem Calm.create (h:Calm K r M) (s:ByteArray):Calm (K+1) r (M.create s).1:=by
 have f:=(Fits.does h.ok h.dst h.used ⟨0,s,s,0,0,[],[]⟩ (show (0:Int)≠8 by decide) (show (0:Int)≠9 by decide)).1
 exact ⟨h.ok.create s,h.quiet.create s,f.dst,f.used,f.room.trans h.room⟩
theorem Calm.append (h:Calm K r M) (s:ByteArray) (b:Bs):Calm (K+1) r (M.append s b).1:=by
 have f:=(Fits.does h.ok h.dst h.used ⟨1,s,s,0,0,b,[]⟩ (show (1:Int)≠8 by decide) (show (1:Int)≠9 by decide)).1
 exact ⟨h.ok.append s b,h.quiet.append s b,f.dst,f.used,f.room.trans h.room⟩
theorem Calm.remove (h:Calm K r M) (s:ByteArray):Calm (K+1) r (M.remove s).1:=by
 have f:=(Fits.does h.ok h.dst h.used ⟨4,s,s,0,0,[],[]⟩ (show (4:Int)≠8 by decide) (show (4:Int)≠9 by decide)).1
 exact ⟨h.ok.remove s,h.quiet.remove s,f.dst,f.used,f.room.trans h.room⟩
theorem Calm.sync (h:Calm K r M) (s:ByteArray):Calm (K+1) r (M.sync s).1:=by
 have f:=(Fits.does h.ok h.dst h.used ⟨5,s,s,0,0,[],[]⟩ (show (5:Int)≠8 by decide) (show (5:Int)≠9 by decide)).1
 exact ⟨h.ok.sync s,h.quiet.sync s,f.dst,f.used,f.room.trans h.room⟩
theorem Calm.syncDir (h:Calm K r M):Calm K r M.syncDir.1:=by
 have f:=(Fits.does h.ok h.dst h.used ⟨6,ByteArray.empty,ByteArray.empty,0,0,[],[]⟩ (show (6:Int)≠8 by decide) (show (6:Int)≠9 by decide)).1
 exact ⟨h.ok.syncDir,h.quiet.syncDir,f.dst,f.used,f.room.trans h.room⟩
def Has (L:Log) (M:Med):Prop:=∀ s∈L.l,∃ i,nget M.now (name s.1)=some i
structure Keeps (K r:Nat) (L:Log) (M:Med):Prop where
 log:L.Ok
 calm:Calm K r M
 has:Has L M
theorem Keeps.mono {K':Nat} (h:Keeps K r L M) (hk:K≤K'):Keeps K' r L M:=⟨h.log,h.calm.mono hk,h.has⟩
theorem Keeps.shut (h:Keeps K r L M):Keeps (K+1) r (L.shut M).1.1 (L.shut M).1.2∧(L.shut M).2=0∧(L.shut M).1.1.l=L.l∧(L.shut M).1.1.fresh=L.fresh∧Alike M (L.shut M).1.2:=by
 have hlog:=h.log.shut M
 cases hon:L.on with
 |false=>rw [Log.shut_off M hon]at hlog ⊢;exact ⟨h.mono (Nat.le_succ K),rfl,rfl,rfl,Alike.refl M⟩
 |true=>
  obtain ⟨s,hl⟩:=h.log.last hon
  rw [Log.shut_on M hl hon]at hlog ⊢
  obtain ⟨i,hi⟩:=h.has s (List.mem_of_getLast? hl)
  have e:=h.calm.quiet.sync_eq hi
  have e2:(M.sync (name s.1)).2=0:=by rw [e]
  have ha:=sync_alike h.calm.ok h.calm.quiet (name s.1)
  have hc:=h.calm.sync (name s.1)
  rw [if_pos e2]at hlog ⊢
  exact ⟨⟨hlog,hc,fun t ht=>by rw [ha.now];exact h.has t ht⟩,rfl,rfl,rfl,ha⟩
theorem Keeps.begin1 (h:Keeps K r L M) (b:Bs) (hb:b.length≤16777216):Keeps (K+3) r (L.begin1 M b).1.1 (L.begin1 M b).1.2 ∧
  ((L.begin1 M b).2.2≠0→(L.begin1 M b).1.1=L∧Alike M (L.begin1 M b).1.2∧((L.begin1 M b).2.2=11→(M.room:Int) - M.used<b.length+8)):=by
 have hlog:=h.log.begin1 M b hb
 obtain ⟨n1,n2,n3⟩:=h.log.next
 unfold Log.begin1 at hlog ⊢
 by_cases h1:1048576≤L.next
 ·rw [if_pos h1]at hlog ⊢
  exact ⟨h.mono oQ,fun _=>⟨rfl,Alike.refl M,fun hh=>by cases hh⟩⟩
 rw [if_neg h1]at hlog ⊢
 have hc1:=h.calm.create (name L.next)
 rcases create_cases h.calm.quiet (name L.next) with ⟨c1,c2,c3⟩|⟨hg,hn,hl,c⟩
 ·rw [if_pos c1]at hlog ⊢
  simp only [c3]at hlog hc1 ⊢
  exact ⟨h.mono oQ,fun _=>⟨by first|trivial|rfl,Alike.refl M,fun hh=>absurd hh c2⟩⟩
 have c0:(M.create (name L.next)).2=0:=by rw [c]
 rw [if_neg (fun hh=>hh c0)]at hlog ⊢
 have hself:nget (M.create (name L.next)).1.now (name L.next)=some M.files.length:=by
  rw [c];exact nget_put_self h.calm.ok.nowOk.srt _ _
 have hused:(M.create (name L.next)).1.used=M.used∧(M.create (name L.next)).1.room=M.room:=by
  refine ⟨?_,by rw [c]⟩
  rw [c]
  show ((nput M.now (name L.next) M.files.length).map fun p=>((M.files++[Fil.new]).getD p.2 Fil.new).now.length).sum=_
  rw [sum_put _ _ _ (fun j=>((M.files++[Fil.new]).getD j Fil.new).now.length),ndel_none hn]
  have e0:((M.files++[Fil.new]).getD M.files.length Fil.new).now.length=0:=by simp [Fil.new]
  rw [e0,Nat.zero_add]
  refine Med.sum_congr (g:=fun j=>((M.files++[Fil.new]).getD j Fil.new).now.length) (h:=fun j=>(M.file j).now.length) fun p hp=>?_
  have:=h.calm.ok.nowOk.ids p hp
  simp only [Med.file,List.getD_eq_getElem?_getD]
  rw [List.getElem?_append_left this]
 have hhas:Has L (M.create (name L.next)).1:=fun s hs=>by
  obtain ⟨i,hi⟩:=h.has s hs
  rw [c]
  refine ⟨i,?_⟩
  show nget (nput M.now (name L.next) M.files.length) (name s.1)=_
  rw [nget_put_ne (fun e=>by rw [e,hn]at hi;cases hi)]
  exact hi
 have hc2:=hc1.append (name L.next) (mag++b)
 rcases append_cases hc1.quiet (name L.next) (mag++b) with ⟨a1,_⟩|⟨i,a1,⟨a2,a3⟩|⟨a2,a3⟩⟩
 ·rw [hself]at a1;cases a1
 ·have e1:((M.create (name L.next)).1.append (name L.next) (mag++b)).2=11:=by rw [a3]
  have e1':¬ ((M.create (name L.next)).1.append (name L.next) (mag++b)).2=0:=by rw [e1];decide
  have e2:((M.create (name L.next)).1.append (name L.next) (mag++b)).1=(M.create (name L.next)).1:=by rw [a3]
  have e3:=remove_quiet hc1.quiet hself
  have hc3:=hc1.remove (name L.next)
  rw [if_neg e1',if_pos e1]at hlog ⊢
  rw [e2]at *
  have e4:((M.create (name L.next)).1.remove (name L.next)).2=0:=by rw [e3]
  have ha:Alike M ((M.create (name L.next)).1.remove (name L.next)).1:=by
   rw [e3,c]
   refine ⟨?_,rfl,rfl,fun p hp=>?_⟩
   ·show Lnk.on ⟨name L.next,ByteArray.empty,0⟩ (nput M.now (name L.next) M.files.length)=M.now
    unfold Lnk.on
    simp only [if_neg (good_ne hg),if_true]
    exact ndel_put hn
   ·have:=h.calm.ok.nowOk.ids p hp
    simp only [Med.file,Med.link,List.getD_eq_getElem?_getD]
    rw [List.getElem?_append_left this]
  refine ⟨⟨hlog,hc3.mono oQ,fun s hs=>by rw [ha.now];exact h.has s hs⟩,fun _=>⟨rfl,ha,fun _=>?_⟩⟩
  rw [hused.1,hused.2,List.length_append]at a2
  have:mag.length=8:=rfl
  omega
 ·have e1:((M.create (name L.next)).1.append (name L.next) (mag++b)).2=0:=by rw [a3]
  rw [if_pos e1]at hlog ⊢
  refine ⟨⟨hlog,hc2.mono oQ,fun s hs=>?_⟩,fun hh=>absurd rfl hh⟩
  rw [a3]
  show ∃ j,nget (M.create (name L.next)).1.now (name s.1)=some j
  rcases List.mem_append.1 hs with hs|hs
  ·exact hhas s hs
  ·rw [List.mem_singleton.1 hs];exact ⟨_,hself⟩
theorem Keeps.begin (h:Keeps K r L M) (b:Bs) (hb:b.length≤16777216):Keeps (K+4) r (L.begin M b).1.1 (L.begin M b).1.2 ∧
  ((L.begin M b).2.2≠0→(L.begin M b).1.1.l=L.l∧(L.begin M b).1.1.fresh=L.fresh∧Alike M (L.begin M b).1.2∧((L.begin M b).2.2=11→(M.room:Int) - M.used<b.length+8)):=by
 obtain ⟨h1,h2,h3,h4,h5⟩:=h.shut
 unfold Log.begin
 rw [if_pos h2]
 obtain ⟨k1,k2⟩:=h1.begin1 b hb
 refine ⟨k1,fun hh=>?_⟩
 obtain ⟨k3,k4,k5⟩:=k2 hh
 rw [k3]
 exact ⟨h3,h4,h5.trans k4,fun e=>by rw [← h5.used,← h5.room];exact k5 e⟩
theorem Keeps.grow (h:Keeps K r L M) (b:Bs) (hf:L.fits b.length=true):Keeps (K+1) r (L.grow M b).1.1 (L.grow M b).1.2 ∧
  ((L.grow M b).2.2≠0→(L.grow M b).1.1=L∧Alike M (L.grow M b).1.2∧((L.grow M b).2.2=11→(M.room:Int) - M.used<b.length)):=by
 have hlog:=h.log.grow M b hf
 unfold Log.grow at hlog ⊢
 cases hl:L.l.getLast? with
 |none=>exact ⟨h.mono (Nat.le_succ K),fun hh=>absurd rfl hh⟩
 |some s=>
  rw [hl]at hlog
  simp only at hlog ⊢
  have hc:=h.calm.append (name s.1) b
  obtain ⟨j,hj⟩:=h.has s (List.mem_of_getLast? hl)
  rcases append_cases h.calm.quiet (name s.1) b with ⟨a1,_⟩|⟨i,a1,⟨a2,a3⟩|⟨a2,a3⟩⟩
  ·rw [hj]at a1;cases a1
  ·rw [a3]at hlog hc ⊢
   rw [if_neg (show ¬ ((M,(11:Int)).2=0) from (by simp))]at hlog ⊢
   exact ⟨h.mono (Nat.le_succ K),fun _=>⟨rfl,Alike.refl M,fun _=>a2⟩⟩
  ·rw [a3]at hlog hc ⊢
   rw [if_pos rfl]at hlog ⊢
   refine ⟨⟨hlog,hc,fun t ht=>?_⟩,fun hh=>absurd rfl hh⟩
   show ∃ j,nget M.now (name t.1)=some j
   rcases List.mem_append.1 ht with ht|ht
   ·exact h.has t ((List.dropLast_subset _ ht))
   ·rw [List.mem_singleton.1 ht];exact ⟨j,hj⟩
theorem size_enc {x:Frm.Ent} (h:(Frm.encode x).2=0) (hk:x.key.length=32):(Frm.encode x).1.length=Frm.size x:=by
 unfold Frm.encode at *
 split at h
 ·rename_i hc;exact absurd h hc
 ·rename_i hc
  rw [if_neg hc]
  unfold Frm.body Frm.size
  simp only [List.length_append,Frm.le_len,List.length_singleton,if_neg hc]
  split
  ·rename_i ht
   have:x.data.length=0:=by
    simp only [Decidable.not_not]at hc
    unfold Frm.check at hc
    rw [ht]at hc
    simp only [show ¬ ((2:Int)=0) by decide,if_false,if_true]at hc
    split at hc
    ·cases hc
    split at hc
    ·cases hc
    omega
   simp;omega
  ·omega
theorem Keeps.append (h:Keeps K r L M) (x:Frm.Ent) (hk:x.key.length=32):Keeps (K+4) r (L.append M x).1.1 (L.append M x).1.2 ∧
  ((L.append M x).2.2≠0→(L.append M x).1.1.l=L.l∧(L.append M x).1.1.fresh=L.fresh∧Alike M (L.append M x).1.2∧((L.append M x).2.2=11→(M.room:Int) - M.used<Frm.size x+8)):=by
 have hl:=encode_len x hk
 by_cases h1:(Frm.encode x).2=0
 ·have hz:=size_enc h1 hk
  cases hf:L.fits (Frm.encode x).1.length with
  |true=>
   rw [Log.append_grow h1 hf]
   obtain ⟨k1,k2⟩:=h.grow _ hf
   refine ⟨k1.mono oQ,fun hh=>?_⟩
   obtain ⟨k3,k4,k5⟩:=k2 hh
   rw [k3]
   exact ⟨rfl,rfl,k4,fun e=>by have:=k5 e;omega⟩
  |false=>
   rw [Log.append_begin h1 hf]
   obtain ⟨k1,k2⟩:=h.begin _ (by omega:(Frm.encode x).1.length≤16777216)
   exact ⟨k1,fun hh=>by rw [← hz];exact k2 hh⟩
 ·rw [Log.append_bad h1]
  refine ⟨h.mono oQ,fun _=>⟨rfl,rfl,Alike.refl M,fun e=>?_⟩⟩
  exfalso
  have e':(Frm.encode x).2=11:=e
  unfold Frm.encode at e'
  split at e'
  ·simp only at e'
   unfold Frm.check at e'
   repeat' split at e'
   all_goals cases e'
  ·cases e'
theorem append_place (h:Keeps K r L M) (x:Frm.Ent) (hk:x.key.length=32) (h0:(L.append M x).2.2=0):∃ i,nget (L.append M x).1.2.now (name (L.append M x).2.1.seg)=some i:=by
 have hK:=(h.append x hk).1
 have key:∃ s,(L.append M x).1.1.l.getLast?=some s∧s.1=(L.append M x).2.1.seg:=by
  by_cases h1:(Frm.encode x).2=0
  ·cases hf:L.fits (Frm.encode x).1.length with
   |true=>
    rw [Log.append_grow h1 hf]at h0 ⊢
    unfold Log.grow at h0 ⊢
    cases hl:L.l.getLast? with
    |none=>
     exfalso
     unfold Log.fits at hf
     rw [Bool.and_eq_true]at hf
     exact h.log.on hf.1 (List.getLast?_eq_none_iff.1 hl)
    |some s=>
     rw [hl]at h0
     simp only at h0 ⊢
     split at h0
     ·rename_i e;rw [if_pos e];exact ⟨(s.1,s.2+((Frm.encode x).1.length:Int)),by simp,rfl⟩
     ·rename_i e;exact absurd h0 e
   |false=>
    rw [Log.append_begin h1 hf]at h0 ⊢
    unfold Log.begin at h0 ⊢
    split at h0
    ·rename_i e
     rw [if_pos e]
     unfold Log.begin1 at h0 ⊢
     split at h0
     ·cases h0
     rename_i e1
     rw [if_neg e1]
     split at h0
     ·rename_i e2;exact absurd h0 e2
     rename_i e2
     rw [if_neg e2]
     split at h0
     ·rename_i e3;rw [if_pos e3];exact ⟨((L.shut M).1.1.next,8+((Frm.encode x).1.length:Int)),by simp,rfl⟩
     ·split at h0
      ·rename_i e3 e4
       simp only at h0
       split at h0
       ·cases h0
       ·rename_i e5;exact absurd h0 e5
      ·rename_i e3 e4;exact absurd h0 e3
    ·rename_i e;exact absurd h0 e
  ·rw [Log.append_bad h1]at h0;exact absurd h0 h1
 obtain ⟨s,hs,e⟩:=key
 rw [← e]
 exact hK.has s (List.mem_of_getLast? hs)
theorem Keeps.commit (h:Keeps K r L M):Keeps (K+5) r (L.commit M).1.1 (L.commit M).1.2:=by
 obtain ⟨k1,_⟩:=h.append comEnt rfl
 have hlog:=h.log.commit M
 rw [Log.commit_eq]at hlog ⊢
 split
 ·exact k1.mono oQ
 rename_i e1
 rw [if_neg e1]at hlog
 simp only [Decidable.not_not]at e1
 obtain ⟨i,hi⟩:=append_place h comEnt rfl e1
 have es:=k1.calm.quiet.sync_eq hi
 have hc2:=k1.calm.sync (name (L.append M comEnt).2.1.seg)
 have hs2:((L.append M comEnt).1.2.sync (name (L.append M comEnt).2.1.seg)).2=0:=by rw [es]
 rw [if_neg (fun hh=>hh hs2)]at hlog ⊢
 have hd:=hc2.quiet.syncDir_eq
 have hd2:(((L.append M comEnt).1.2.sync (name (L.append M comEnt).2.1.seg)).1.syncDir).2=0:=by rw [hd]
 rw [if_neg (fun hh=>hh hd2)]at hlog ⊢
 refine ⟨hlog,hc2.syncDir,fun s hs=>?_⟩
 obtain ⟨j,hj⟩:=k1.has s hs
 refine ⟨j,?_⟩
 show nget (((L.append M comEnt).1.2.sync (name (L.append M comEnt).2.1.seg)).1.syncDir).1.now (name s.1)=some j
 rw [hd]
 show nget ((L.append M comEnt).1.2.sync (name (L.append M comEnt).2.1.seg)).1.now (name s.1)=some j
 rw [es]
 exact hj
theorem setRoom_calm (h:Calm K r M) (n:Nat) (h1:M.used≤n) (h2:n≤16777216):M.setRoom n=({ M with room:=n },0)∧Calm K n { M with room:=n }:=by
 have e:M.setRoom n=({ M with room:=n },0):=by
  unfold Med.setRoom
  rw [h.quiet.off,if_neg dCz,if_neg oQ]
  rfl
 have hok:=h.ok.setRoom (n:Int)
 rw [e]at hok
 exact ⟨e,hok,⟨h.quiet.armed,h.quiet.off,h.quiet.left⟩,h.dst,h1,rfl⟩
end
end Go.Seg
namespace Go.Proofs.YtjbhhbnopnmcnaaGreatDoor
open Go Go.Sl Go.Med Go.MapKept Go.RowKit
def liveM:Med:=Med.new 1000
theorem live_alive:Seg.alive liveM=0:=by kernel_rfl
theorem live_fresh:Seg.fresh liveM 200=⟨200,[],false,0⟩:=by kernel_rfl
section
variable {w0 w:World}{F:List HProp}
end
end Go.Proofs.YtjbhhbnopnmcnaaGreatDoor
namespace Go.Seg
theorem number_name (n:Int) (h1:0≤n) (h2:n<1048576):number (name n)=(n,true):=by
 unfold name
 rw [if_neg oQ]
 unfold number
 have hl:(lead++digs n.toNat 8).length=12:=by rw [List.length_append,digs_len];rfl
 have hd:(lead++digs n.toNat 8).drop 4=digs n.toNat 8:=rfl
 have ht:(lead++digs n.toNat 8).take 4=lead:=rfl
 have hv:=val_digs 8 n.toNat oQ
 simp only [hl,hd,ht,digs_dig,hv,true_and]
 rw [if_pos oQ]
 simp only [Prod.mk.injEq,and_true]
 omega
end Go.Seg
namespace Go.Proofs.YtjbhhbnopnmcnaaGreatDoor
open Go Go.Sl Go.Med Go.MapKept Go.RowKit
section
variable {w0 w:World}{F:List HProp}
end
end Go.Proofs.YtjbhhbnopnmcnaaGreatDoor
namespace Go.Frm
theorem fourB {l:Bs} (h:l.length=4):∃ c0 c1 c2 c3,l=[c0,c1,c2,c3]:=by
 match l,h with
 |[c0,c1,c2,c3],_=>exact ⟨c0,c1,c2,c3,rfl⟩
theorem encode_zero {x:Ent} (h:(encode x).2=0):check x=0∧(encode x).1=le (crc (body x)) 4++body x:=by
 unfold encode at *
 split at h
 ·rename_i hc;exact absurd h hc
 ·rename_i hc
  rw [if_neg hc]
  exact ⟨by simpa using hc,rfl⟩
theorem check_cases {x:Ent} (h:check x=0):x.tag=0∧x.data.length≤16384∨x.tag=2∧x.key=zero32∧x.data=[]∨x.tag=1∧x.data=[]:=by
 unfold check at h
 split at h
 ·rename_i t;split at h
  ·cases h
  ·exact .inl ⟨t,by omega⟩
 split at h
 ·rename_i t
  split at h
  ·cases h
  rename_i hk
  split at h
  ·cases h
  rename_i hd
  exact .inr (.inl ⟨t,by simpa using hk,List.eq_nil_of_length_eq_zero oQ⟩)
 split at h
 ·rename_i t
  split at h
  ·cases h
  rename_i hd
  exact .inr (.inr ⟨t,List.eq_nil_of_length_eq_zero oQ⟩)
 ·cases h
theorem read_encode {x:Ent} (h:(encode x).2=0) (hk:x.key.length=32) (rest:Bs):read ((encode x).1++rest)=(x,(encode x).1.length,0):=by
 have hz:=Seg.size_enc h hk
 obtain ⟨hc,he⟩:=encode_zero h
 have hs:size x=9∨41≤size x:=by
  unfold size
  rw [if_neg (by simp [hc])]
  by_cases ht:x.tag=2
  ·rw [if_pos ht];omega
  ·rw [if_neg ht];omega
 have hs2:size x≤16425:=by
  rcases check_cases hc with ⟨t,d⟩|⟨t,k,d⟩|⟨t,d⟩
  all_goals
   unfold size
   rw [if_neg (by simp [hc])]
   by_cases ht:x.tag=2
   ·rw [if_pos ht];omega
   ·rw [if_neg ht]
    first|omega|(rw [d];simp)
 obtain ⟨c0,c1,c2,c3,hC⟩:=fourB (le_len (crc (body x)) 4)
 obtain ⟨s0,s1,s2,s3,hS⟩:=fourB (le_len (size x) 4)
 have hnum:num [s0,s1,s2,s3]=size x:=by rw [← hS];exact num_le 4 _ oQ
 have hcrc:num [c0,c1,c2,c3]=crc (body x):=by rw [← hC];exact num_le 4 _ (crc_lt _)
 have hb:body x=[s0,s1,s2,s3]++(UInt8.ofNat x.tag.toNat::((if x.tag=2 then [] else x.key)++x.data)):=by unfold body;rw [hS];simp
 have hE:(encode x).1=c0::c1::c2::c3::s0::s1::s2::s3::UInt8.ofNat x.tag.toNat::((if x.tag=2 then [] else x.key)++x.data):=by rw [he,hC,hb];rfl
 have hlen:((if x.tag=2 then [] else x.key)++x.data).length+9=size x:=by rw [← hz,hE];simp
 have hT:UInt8.ofNat x.tag.toNat=0∧x.tag=0∧41≤size x∨UInt8.ofNat x.tag.toNat=1∧x.tag=1∧size x=41∨UInt8.ofNat x.tag.toNat=2∧x.tag=2∧size x=9:=by
  rcases check_cases hc with ⟨t,d⟩|⟨t,k,d⟩|⟨t,d⟩
  ·left;rw [t];refine ⟨rfl,rfl,?_⟩
   unfold size;rw [if_neg (by simp [hc]),if_neg (by rw [t];decide)];omega
  ·right;right;rw [t];refine ⟨rfl,rfl,?_⟩
   unfold size;rw [if_neg (by simp [hc]),if_pos t]
  ·right;left;rw [t];refine ⟨rfl,rfl,?_⟩
   unfold size;rw [if_neg (by simp [hc]),if_neg (by rw [t];decide),d];rfl
 have hfit:fits (UInt8.ofNat x.tag.toNat) (size x)=true:=by
  rcases hT with ⟨a,_,b⟩|⟨a,_,b⟩|⟨a,_,b⟩
  ·rw [a];unfold fits;rw [if_pos rfl,decide_eq_true_eq];omega
  ·rw [a];unfold fits;rw [if_neg dCz,if_pos rfl,decide_eq_true_eq];omega
  ·rw [a];unfold fits;rw [if_neg dCz,if_neg dCz,if_pos rfl,decide_eq_true_eq];omega
 generalize hP:(if x.tag=2 then [] else x.key)++x.data=P at *
 generalize hG:UInt8.ofNat x.tag.toNat=T at *
 have hL:((encode x).1++rest)=c0::c1::c2::c3::s0::s1::s2::s3::T::(P++rest):=by rw [hE];rfl
 have hll:(c0::c1::c2::c3::s0::s1::s2::s3::T::(P++rest)).length=size x+rest.length:=by simp;omega
 have htk:(c0::c1::c2::c3::s0::s1::s2::s3::T::(P++rest)).take (size x)=c0::c1::c2::c3::s0::s1::s2::s3::T::P:=by
  have:c0::c1::c2::c3::s0::s1::s2::s3::T::(P++rest)=(c0::c1::c2::c3::s0::s1::s2::s3::T::P)++rest:=rfl
  rw [this,List.take_append_of_le_length (by simp;omega),List.take_of_length_le (by simp;omega)]
 rw [hz,hL]
 unfold read
 dsimp only
 rw [if_neg (by rw [hll];omega)]
 have hn:num (((c0::c1::c2::c3::s0::s1::s2::s3::T::(P++rest)).drop 4).take 4)=size x:=hnum
 have h8:(c0::c1::c2::c3::s0::s1::s2::s3::T::(P++rest)).getD 8 0=T:=rfl
 have h4:num ((c0::c1::c2::c3::s0::s1::s2::s3::T::(P++rest)).take 4)=crc (body x):=hcrc
 rw [hn,h8,hfit,if_neg dCz,if_neg (by rw [hll];omega),htk,h4]
 have hdr:(c0::c1::c2::c3::s0::s1::s2::s3::T::P).drop 4=body x:=by rw [hb];rfl
 rw [hdr,if_neg (by simp)]
 have h9:(c0::c1::c2::c3::s0::s1::s2::s3::T::(P++rest)).drop 9=P++rest:=rfl
 have h41:(c0::c1::c2::c3::s0::s1::s2::s3::T::P).drop 41=P.drop 32:=rfl
 rw [h9,h41]
 rcases hT with ⟨a,t,b⟩|⟨a,t,b⟩|⟨a,t,b⟩
 ·rw [if_pos b]
  rw [if_neg (by rw [t];decide)]at hP
  have e1:(P++rest).take 32=x.key:=by rw [← hP,List.append_assoc,List.take_append_of_le_length oQ,List.take_of_length_le oQ]
  have e2:P.drop 32=x.data:=by rw [← hP,List.drop_append,List.drop_of_length_le oQ,hk];simp
  rw [e1,e2,a]
  obtain ⟨tag,key,data⟩:=x
  simp only at t ⊢
  rw [t];rfl
 ·rw [if_pos oQ]
  rw [if_neg (by rw [t];decide)]at hP
  have e1:(P++rest).take 32=x.key:=by rw [← hP,List.append_assoc,List.take_append_of_le_length oQ,List.take_of_length_le oQ]
  have e2:P.drop 32=x.data:=by rw [← hP,List.drop_append,List.drop_of_length_le oQ,hk];simp
  rw [e1,e2,a]
  obtain ⟨tag,key,data⟩:=x
  simp only at t ⊢
  rw [t];rfl
 ·rw [if_neg oQ,a]
  rcases check_cases hc with ⟨t',d⟩|⟨t',k,d⟩|⟨t',d⟩
  ·rw [t]at t';cases t'
  ·obtain ⟨tag,key,data⟩:=x
   simp only at t k d ⊢
   rw [t,k,d];rfl
  ·rw [t]at t';cases t'
def encs (l:List Ent):Bs:=l.flatMap fun x=>(encode x).1
def GoodE (x:Ent):Prop:=(encode x).2=0∧x.key.length=32
def fnds:List Ent→Nat→List Fnd
 |[],_=>[]
 |x::l,at_=>⟨x,at_,(encode x).1.length⟩::fnds l (at_+(encode x).1.length)
theorem fnds_e:∀ (l:List Ent) (at_:Nat),(fnds l at_).map (·.e)=l
 |[],_=>rfl
 |x::l,at_=>by rw [fnds,List.map_cons,fnds_e l]
theorem encs_pos {x:Ent} (h:GoodE x):0<(encode x).1.length:=List.length_pos_iff.2 (Seg.encode_ne x h.1)
theorem scanL_encs:∀ (l:List Ent) (k at_:Nat),(∀ x∈l,GoodE x)→(encs l).length≤k→scanL k (encs l) at_=(fnds l at_,at_+(encs l).length,0)
 |[],k,at_,_,_=>by
  cases k with
  |zero=>rfl
  |succ k=>rfl
 |x::l,k,at_,hg,hk=>by
  have h1:=hg x (.head _)
  have e:encs (x::l)=(encode x).1++encs l:=rfl
  have hp:=encs_pos h1
  rw [e,List.length_append]at hk
  cases k with
  |zero=>omega
  |succ k=>
   have hr:=read_encode h1.1 h1.2 (encs l)
   have hd:((encode x).1++encs l).drop (encode x).1.length=encs l:=by simp
   rw [e]
   unfold scanL
   rw [if_neg (by intro hh;have:=congrArg List.length hh;rw [List.length_append]at this;simp only [List.length_nil]at this;omega),hr]
   simp only [ne_eq,not_true_eq_false,if_false,hd]
   rw [scanL_encs l k (at_+(encode x).1.length) (fun y hy=>hg y (.tail _ hy)) oQ]
   simp only [fnds,List.length_append,Nat.add_assoc]
theorem scan_encs (l:List Ent) (hg:∀ x∈l,GoodE x):scan (Seg.mag++encs l)=(fnds l 8,(Seg.mag++encs l).length,0):=by
 unfold scan
 rw [if_pos rFz]
 have e:(Seg.mag++encs l).drop 8=encs l:=rfl
 rw [e,scanL_encs l _ 8 hg (by rw [List.length_append];omega),List.length_append]
 rfl
end Go.Frm
namespace Go.Seg
open Go.Med
open Go.Frm (encs GoodE)
theorem name_inj {a b:Int} (ha:0≤a) (ha2:a<1048576) (hb:0≤b) (hb2:b<1048576) (h:name a=name b):a=b:=by
 have h1:=number_name a ha ha2
 have h2:=number_name b hb hb2
 rw [h]at h1
 rw [h1]at h2
 exact congrArg Prod.fst h2
theorem good_name (n:Int) (h1:0≤n) (h2:n<1048576):good (name n)=true:=by
 unfold name
 rw [if_neg oQ]
 unfold good
 have hl:(lead++digs n.toNat 8).length=12:=by rw [List.length_append,digs_len];rfl
 have hs:(⟨(lead++digs n.toNat 8).toArray⟩:ByteArray).size=12:=by show (lead++digs n.toNat 8).toArray.size=12;simp [hl]
 rw [hs]
 simp only [List.all_append]
 have hd:(digs n.toNat 8).all goodC=true:=by
  rw [List.all_eq_true]
  intro c hc
  have:=(List.all_eq_true.1 (digs_dig 8 n.toNat)) c hc
  unfold isDig at this
  rw [Bool.and_eq_true,decide_eq_true_eq,decide_eq_true_eq]at this
  unfold goodC
  have e1:(48:UInt8)≤c:=UInt8.le_iff_toNat_le.2 this.1
  have e2:c≤57:=UInt8.le_iff_toNat_le.2 this.2
  simp [e1,e2]
 rw [hd]
 rfl
theorem dst_inj {M:Med}{K r:Nat} (h:Calm K r M){s t:ByteArray}{i:Nat} (h1:nget M.now s=some i) (h2:nget M.now t=some i):t=s:=by
 by_cases e:t=s
 ·exact e
 ·exfalso
  have:=(used_split h.ok.nowOk.srt h.dst h1).1 (t,i) (List.mem_filter.2 ⟨nget_mem h2,by simpa [bne,beq_ba] using e⟩)
  exact this rfl
theorem all_some {M:Med} (q:Quiet M){s:ByteArray}{i:Nat} (h:nget M.now s=some i):M.all s=((M.file i).now,0):=by
 unfold Med.all;rw [q.off,h];rfl
theorem all_none {M:Med} (q:Quiet M){s:ByteArray} (h:nget M.now s=none):M.all s=([],9):=by
 unfold Med.all;rw [q.off,h];rfl
section
variable {K r:Nat}{M:Med}{L:Log}
theorem append_full (h:Calm K r M){s:ByteArray}{i:Nat} (hi:nget M.now s=some i) (b:Bs) (hr:M.used+b.length≤M.room) :
  (M.append s b).2=0∧(M.append s b).1.now=M.now∧(M.append s b).1.used=M.used+b.length∧(M.append s b).1.all s=((M.all s).1++b,0)∧∀ t,t≠s→(M.append s b).1.all t=M.all t:=by
 have hlt:i<M.files.length:=h.ok.nowOk.ids _ (nget_mem hi)
 rcases append_cases h.quiet s b with ⟨a1,_⟩|⟨j,a1,⟨a2,a3⟩|⟨a2,a3⟩⟩
 ·rw [hi]at a1;cases a1
 ·exfalso;omega
 rw [hi]at a1
 cases a1
 have hq:=(h.append s b).quiet
 rw [a3]at hq ⊢
 refine ⟨rfl,rfl,?_,?_,fun t ht=>?_⟩
 ·have:=used_set h.ok h.dst hi ((M.file i).do ⟨false,0,b⟩)
  have e:((M.file i).do ⟨false,0,b⟩).now.length=(M.file i).now.length+b.length:=by simp [Fil.do,Chg.on]
  rw [e]at this
  show (M.setFile i _).used=_
  omega
 ·rw [all_some hq (show nget (M.setFile i _).now s=some i from hi),all_some h.quiet hi]
  show (((M.setFile i _).file i).now,(0:Int))=_
  rw [file_set hlt,if_pos rfl];rfl
 ·cases hj:nget M.now t with
  |none=>rw [all_none hq (show nget (M.setFile i _).now t=none from hj),all_none h.quiet hj]
  |some j=>
   rw [all_some hq (show nget (M.setFile i _).now t=some j from hj),all_some h.quiet hj]
   show (((M.setFile i _).file j).now,(0:Int))=_
   rw [file_set hlt,if_neg (fun e=>ht (dst_inj h hi (by rw [← e];exact hj)))]
theorem create_full (h:Calm K r M){s:ByteArray} (hg:good s=true) (hn:nget M.now s=none) (hl:M.now.length<500) :
  (M.create s).2=0∧(M.create s).1.now=nput M.now s M.files.length∧(M.create s).1.used=M.used∧(M.create s).1.all s=([],0)∧∀ t,t≠s→(M.create s).1.all t=M.all t:=by
 rcases create_cases h.quiet s with ⟨c1,c2,c3⟩|⟨_,_,_,c⟩
 ·exfalso
  apply c1
  unfold Med.create
  rw [h.quiet.off,h.quiet.step,hg,hn]
  simp only [Bool.false_eq_true,if_false,Bool.true_eq_false,Option.isSome_none]
  rw [if_neg oQ]
 have hq:=(h.create s).quiet
 rw [c]at hq ⊢
 refine ⟨rfl,rfl,?_,?_,fun t ht=>?_⟩
 ·show ((nput M.now s M.files.length).map fun p=>((M.files++[Fil.new]).getD p.2 Fil.new).now.length).sum=_
  rw [sum_put _ _ _ (fun j=>((M.files++[Fil.new]).getD j Fil.new).now.length),ndel_none hn]
  have e0:((M.files++[Fil.new]).getD M.files.length Fil.new).now.length=0:=by simp [Fil.new]
  rw [e0,Nat.zero_add]
  refine Med.sum_congr (g:=fun j=>((M.files++[Fil.new]).getD j Fil.new).now.length) (h:=fun j=>(M.file j).now.length) fun p hp=>?_
  have:=h.ok.nowOk.ids p hp
  simp only [Med.file,List.getD_eq_getElem?_getD]
  rw [List.getElem?_append_left this]
 ·refine (all_some hq (i:=M.files.length) (nget_put_self h.ok.nowOk.srt _ _)).trans ?_
  simp [Med.file,Fil.new]
 ·have e:=nget_put_ne (l:=M.now) (i:=M.files.length) ht
  cases hj:nget M.now t with
  |none=>rw [hj]at e;exact (all_none hq e).trans (all_none h.quiet hj).symm
  |some j=>
   rw [hj]at e
   refine (all_some hq e).trans ?_
   rw [all_some h.quiet hj]
   have:=h.ok.nowOk.ids _ (nget_mem hj)
   simp only [Med.file,List.getD_eq_getElem?_getD]
   rw [List.getElem?_append_left this]
theorem read_all (q:Quiet M){s:ByteArray}{l:Bs} (h:M.all s=(l,0)){a n:Nat} (hn:a+n≤l.length):M.read s a n=((l.drop a).take n,0):=by
 unfold Med.all at h
 unfold Med.read
 rw [q.off]at h ⊢
 simp only [Bool.false_eq_true,if_false]at h ⊢
 split at h
 ·cases h
 ·rename_i i hi
  cases h
  rw [if_neg oQ,if_neg oQ]
  simp
theorem Log.shut_limit (L:Log) (M:Med):(L.shut M).1.1.limit=L.limit:=by
 unfold Log.shut
 split
 ·rfl
 split
 ·split <;> rfl
 ·rfl
structure Holds (n:Nat) (L:Log) (M:Med) (C:List (List Frm.Ent)):Prop where
 keeps:Keeps (n * 5) 1048576 L M
 len:L.l.length=C.length
 at_:∀ (k:Nat) (es:List Frm.Ent),C[k]?=some es→L.l[k]?=some ((k:Int),8+((encs es).length:Int))
 file:∀ (k:Nat) (es:List Frm.Ent),C[k]?=some es→M.all (name k)=(mag++encs es,0)
 good:∀ es∈C,(∀ x∈es,GoodE x)∧es≠[]
 fit:∀ es∈C,8+((encs es).length:Int)≤L.limit∨es.length=1
 count:C.length≤n
 used:M.used≤n * 400
 names:M.now.length≤n
 only:∀ (s:ByteArray) (i:Nat),nget M.now s=some i→∃ k:Nat,k<C.length∧s=name k
def put (C:List (List Frm.Ent)) (on:Bool) (x:Frm.Ent):List (List Frm.Ent):=if on then C.dropLast++[C.getLastD []++[x]] else C++[[x]]
theorem last_of {C:List (List Frm.Ent)} (h:C≠[]):C=C.dropLast++[C.getLastD []]:=by
 conv=>lhs;rw [← List.dropLast_concat_getLast h]
 rw [List.getLastD_eq_getLast?,List.getLast?_eq_some_getLast h];rfl
theorem put_flat (C:List (List Frm.Ent)) (on:Bool) (x:Frm.Ent) (h:on=true→C≠[]):(put C on x).flatten=C.flatten++[x]:=by
 unfold put
 cases on with
 |false=>simp
 |true=>
  have e:=last_of (h rfl)
  simp only [if_true]
  conv=>rhs;rw [e]
  simp only [List.flatten_append,List.flatten_cons,List.flatten_nil,List.append_nil,List.append_assoc]
theorem encs_app (a b:List Frm.Ent):encs (a++b)=encs a++encs b:=by unfold encs;rw [List.flatMap_append]
theorem encs_one (x:Frm.Ent):encs [x]=(Frm.encode x).1:=by unfold encs;simp
variable {n:Nat}{C:List (List Frm.Ent)}
theorem enc_small {x:Frm.Ent} (h0:(Frm.encode x).2=0) (hk:x.key.length=32) (hd:x.data.length≤300):(Frm.encode x).1.length≤341:=by
 rw [size_enc h0 hk]
 unfold Frm.size
 split
 ·omega
 ·split <;> omega
theorem read_back {s:Int×Int}{x:Frm.Ent}{es:List Frm.Ent} (hK:Keeps K r L M) (hl:L.l.getLast?=some s) (hall:M.all (name s.1)=(mag++encs (es++[x]),0)) (hg:GoodE x) :
  L.read M ⟨s.1,8+((encs es).length:Int),((Frm.encode x).1.length:Int)⟩=(x,0):=by
 unfold Log.read
 have hat:=hK.log.at_last hl
 simp only [hat]
 have hr:=read_all hK.calm.quiet hall (a:=8+(encs es).length) (n:=(Frm.encode x).1.length) (by rw [encs_app,encs_one];simp only [List.length_append];have:mag.length=8:=rfl;omega)
 have hd:((mag++encs (es++[x])).drop (8+(encs es).length)).take (Frm.encode x).1.length=(Frm.encode x).1:=by
  rw [encs_app,encs_one,← List.append_assoc,List.drop_append,List.drop_of_length_le (by simp only [List.length_append];have:mag.length=8:=rfl;omega)]
  have:8+(encs es).length - (mag++encs es).length=0:=by simp only [List.length_append];have:mag.length=8:=rfl;omega
  rw [this,List.drop_zero,List.nil_append,List.take_length]
 rw [hd]at hr
 have hz:((8+(encs es).length:Nat):Int)=8+((encs es).length:Int):=oQ
 rw [hz]at hr
 have hre:=Frm.read_encode hg.1 hg.2 []
 rw [List.append_nil]at hre
 rw [hr]
 simp only [hre]
 rw [if_neg dCz,if_neg dCz,if_neg (by simp)]
end
end Go.Seg
namespace Go.Seg
structure Cal where
 kind:Int
 e:Frm.Ent
 n:Int
 p:Plc
 l:List Int
def Cal.cut (c:Cal):Cal:=⟨c.kind,Frm.cutE 300 c.e,c.n,c.p,c.l.take 60⟩
end Go.Seg
namespace Go.Proofs.YtjbhhbnopnmcnaaGreatDoor
open Go Go.Sl Go.Med Go.MapKept Go.RowKit
section
variable {w0 w:World}{F R:List HProp}{v bv dv x lv:Value}
theorem rdsl_cutI {k:Nat}{l:List Int}{a:Option Addr}{n c:Nat} (h:rdsl 1 (.slice a n c) (ints l) w):rdsl 1 (.slice a (min n k) c) (ints (l.take k)) w:=by
 obtain ⟨a',n',c',he,hl,hx⟩:=h
 cases he
 have hil:∀ l:List Int,(ints l).length=l.length:=fun l=>List.length_map ..
 rw [hil,Nat.mul_one]at hl
 refine ⟨a,_,c,rfl,by rw [hil,List.length_take];omega,fun j y hj=>?_⟩
 have hj':(ints l)[j]?=some y:=by
  unfold ints at hj ⊢
  rw [List.map_take,List.getElem?_take]at hj
  split at hj
  ·exact hj
  ·cases hj
 exact hx j y hj'
end
section
variable {w0 w:World}{F R:List HProp}{v bv dv x lv:Value}
theorem within_mem (x lo hi:Int) (h:lo≤hi):lo≤within x lo hi∧within x lo hi≤hi:=by
 unfold within
 split
 ·exact ⟨Int.le_refl _,h⟩
 ·split <;> omega
end
end Go.Proofs.YtjbhhbnopnmcnaaGreatDoor
namespace Go.Seg
open Go.Med
theorem bytes_len {K:Nat}{L:Log}{M:Med} (h:M.Ok K) (n:Int):(L.bytes M n).1.length≤16777216:=by
 unfold Log.bytes
 split
 ·simp
 ·unfold Med.all
  split
  ·simp
  split
  ·simp
  ·exact (h.file _).now_len
end Go.Seg
namespace Go.Seg
open Go.Med
open Go.Frm (encs GoodE)
section
variable {n:Nat}{M:Med}{L:Log}{C:List (List Frm.Ent)}
def comLast (C:List (List Frm.Ent)):Prop:=∀ es∈C,∀ (k:Nat) (x:Frm.Ent),es[k]?=some x→x.tag=2→k+1=es.length
def noCom (es:List Frm.Ent):Prop:=∀ x∈es,x.tag≠2
structure Tail (on:Bool) (C:List (List Frm.Ent)):Prop where
 last:comLast C
 tail:on=true→noCom (C.getLastD [])
theorem fits_on' {k:Nat} (h:L.fits k=true):L.on=true:=by
 unfold Log.fits at h
 rw [Bool.and_eq_true]at h
 exact h.1
end
end Go.Seg
namespace Go.Proofs.YtjbhhbnopnmcnaaGreatDoor
open Go Go.Sl Go.Med Go.MapKept Go.RowKit
section
variable {w0 w:World}{F R:List HProp}{v bv dv x lv:Value}
theorem fnds_sl {fs:List (Frm.Fnd×Value)}{v:Value} (hk:∀ p∈fs,p.1.e.key.length=32) (h:Sat w0 w (osl 180 36 v (fndsL fs)::R)):∃ a c,v = .slice a fs.length c:=by
 obtain ⟨a,n,c,rfl,hl,hx⟩:=Sat.rd h
 rw [fndsL_len hk]at hl
 obtain rfl:n=fs.length:=by omega
 exact ⟨a,c,rfl⟩
theorem dataF_at:∀ (fs:List (Frm.Fnd×Value)) (i:Nat) (p:Frm.Fnd×Value),fs[i]?=some p→∃ G,dataF fs=star (bsl p.2 p.1.e.data) G
 |[],_,_,h=>by cases h
 |x::fs,0,p,h=>by
  obtain rfl:x=p:=by simpa using h
  exact ⟨_,rfl⟩
 |x::fs,i+1,p,h=>by
  obtain ⟨G,hG⟩:=dataF_at fs i p (by simpa using h)
  refine ⟨star (bsl x.2 x.1.e.data) G,?_⟩
  show star (bsl x.2 x.1.e.data) (dataF fs)=_
  rw [hG,star_left_comm]
theorem dataF_ro {fs:List (Frm.Fnd×Value)}{i:Nat}{p:Frm.Fnd×Value} (h:fs[i]?=some p):Ro w0 (dataF fs::R) (rdsl 1 p.2 (bys p.1.e.data)):=fun w hw=>by
 obtain ⟨G,hG⟩:=dataF_at fs i p h
 rw [hG]at hw
 exact Sat.rd (Sat.star.1 hw)
theorem bsl_capL {l:Bs} (h:Sat w0 w (bsl v l::R)):capOk v∧∃ a c,v = .slice a l.length c:=by
 refine ⟨bsl_cap h,?_⟩
 obtain ⟨a,n,c,rfl,_,_,rfl⟩:=bsl_cap' h
 exact ⟨a,c,rfl⟩
end
end Go.Proofs.YtjbhhbnopnmcnaaGreatDoor
namespace Go.Frm
theorem scanL_count:∀ (k:Nat) (b:Bs) (at_:Nat),(scanL k b at_).1.length≤k
 |0,_,_=>Nat.le_refl 0
 |k+1,b,at_=>by
  unfold scanL
  split
  ·exact Nat.zero_le _
  split
  ·exact Nat.zero_le _
  ·simp only [List.length_cons]
   have:=scanL_count k
   exact Nat.succ_le_succ (this _ _)
theorem scan_count (b:Bs):(scan b).1.length≤b.length:=by
 unfold scan
 split
 ·exact scanL_count _ _ _
 ·exact Nat.zero_le _
end Go.Frm
namespace Go.Proofs.YtjbhhbnopnmcnaaGreatDoor
open Go Go.Sl Go.Med Go.MapKept Go.RowKit
abbrev lbt (L:Seg.Log) (M:Med):Rep.Told:=fun n=>L.bytes M n
section
variable {w0 w:World}{F:List HProp}{p m K:Nat}{L:Seg.Log}{M:Med}{sv:Value}
set_option maxRecDepth 20000 in
theorem split_c (hL:L.Ok) (hM:M.Ok K) (hH:Ro w0 F Half) (h:Sat w0 w (osl 3 1 sv (ints L.segs)::LogRep p m L::MedRep m M::F)) :
  Calls Tryz.prog 86 #[ptr p,sv] w (Rtn fun v w'=>v = .tuple #[.int .i64 (Rep.split (lbt L M) L.segs L.segs.length).1,errno (Rep.split (lbt L M) L.segs L.segs.length).2] ∧
   Sat w0 w' (osl 3 1 sv (ints L.segs)::LogRep p m L::MedRep m M::F)):=by
 have HL:=uQ hL;have HM:=uQ hM;have HH:=uQ hH
 have Hlen:=uQ (show L.segs.length≤1073741824 from by unfold Seg.Log.segs;rw [List.length_map];have:=hL.len;omega)
 obtain ⟨sa,sc,rfl⟩:∃ a c,sv = .slice a L.segs.length c:=by
  obtain ⟨a,n,c,rfl,hl,_⟩:=Sat.rd h
  refine ⟨a,c,?_⟩
  rw [show (ints L.segs).length=L.segs.length from List.length_map ..,Nat.mul_one]at hl
  rw [hl]
 have w1:IntKind.i64.wrap ((L.segs.length:Int) - 1)=(L.segs.length:Int) - 1:=IntWalk.i64_in _ (by have:=Hlen.out;omega)
 clear hL hM hH
 go_enter Tryz.func86,Tryz.ntmps86
 go_wp2_with fail
 go_loopg [6] L.segs.length (fun g iq wr=>∃ k:Nat,g=0+k∧k≤L.segs.length∧iq = .int .i64 ((k:Int) - 1)∧Rep.split (lbt L M) L.segs L.segs.length=Rep.split (lbt L M) L.segs k ∧
  Sat w0 wr (osl 3 1 (.slice sa L.segs.length sc) (ints L.segs)::LogRep p m L::MedRep m M::F))
 case atStart=>exact ⟨L.segs.length,(Nat.zero_add _).symm,Nat.le_refl _,rfl,rfl,h⟩
 case round=>
  obtain ⟨k,rfl,hk,rfl,he,hS⟩:=hrel
  clear h
  cases k with
  |zero=>
   have c1:¬ (((0:Nat):Int) - 1)≥0:=by decide
   have He:=uQ he
   clear he
   go_wp2_with fail
   go_ret2
   rw [He.out]
   exact ⟨_,rfl,rfl,hS⟩
  |succ k=>
   have e1:((k+1:Nat):Int) - 1=(k:Int):=oQ
   rw [e1]
   have c1:(k:Int)≥0:=oQ
   have c2:(k:Int)<(L.segs.length:Int):=oQ
   have w2:IntKind.i64.wrap ((k:Int) - 1)=(k:Int) - 1:=IntWalk.i64_in _ (by have:=Hlen.out;omega)
   have w3:IntKind.i64.wrap ((k:Int)+1)=((k+1:Nat):Int):=by rw [IntWalk.i64_in _ (by have:=Hlen.out;omega)];omega
   obtain ⟨s,hs⟩:∃ s,L.segs[k]?=some s:=⟨_,List.getElem?_eq_getElem oQ⟩
   have hgd:L.segs.getD k 0=s:=by rw [List.getD,hs];rfl
   have Hu:=uQ (show Rep.split (lbt L M) L.segs (k+1)=if (L.bytes M s).2≠0 then (0,(L.bytes M s).2) else if (Frm.scan (L.bytes M s).1).2.2=0∧Rep.endedF (Frm.scan (L.bytes M s).1).1=true then (k+1,0) else Rep.split (lbt L M) L.segs k by
    rw [Rep.split,hgd])
   obtain ⟨bk,off,cc,hsv,hcell⟩:=osl_row (f:=fun i:Int=>[Value.int .i64 i]) (k:=1) (l:=L.segs) (fun u _=>rfl) (by have:=Sat.rd hS;rw [show ints L.segs=L.segs.flatMap fun i=>[Value.int .i64 i] from by unfold ints;exact List.map_eq_flatMap]at this;exact this) hs dCz
   cases hsv
   have f0:=hcell 0 _ rfl
   rw [Nat.mul_one,Nat.add_zero]at f0
   have He:=uQ he
   have hb:=lbytes_c HL.out HM.out s (hS.sb:Sat w0 wr (LogRep p m L::MedRep m M::osl 3 1 (.slice (some ⟨bk,off,none⟩) L.segs.length sc) (ints L.segs)::F))
   have hk':=uQ hk
   clear hcell hs hgd he hS hk
   go_wp2_with fail
   refine hb.mono ?_
   rintro ee w3 ⟨v,rfl,bv,rfl,hS3⟩
   clear hb
   obtain ⟨hcap,ca,cc,rfl⟩:=bsl_capL hS3
   by_cases h0:(L.bytes M s).2=0
   rotate_left
   ·have hb:((L.bytes M s).2 != 0)=true:=by rw [bne_iff_ne];exact h0
    have Hf:=uQ (show Rep.split (lbt L M) L.segs (k+1)=(0,(L.bytes M s).2) by rw [Hu.out,if_pos h0])
    clear h0
    go_wp2_with fail
    go_ret2
    rw [He.out,Hf.out]
    exact ⟨_,rfl,rfl,hS3.sb⟩
   have hb:((L.bytes M s).2 != 0)=false:=by rw [h0];rfl
   have H0:=uQ h0
   rw [h0]
   clear h0
   have hbl:=Seg.bytes_len (L:=L) HM.out s
   have hsc:=fscan_c (w0:=w0) (w:=w3) (L.bytes M s).1 (Ro.bsl _ _) hcap (Ro.os HH.out) (Nat.le_trans hbl dCz) hS3
   have Hbl:=uQ hbl
   clear hcap hbl
   go_wp2_with fail
   refine hsc.mono ?_
   rintro ee w4 ⟨v,rfl,fs,fv,hfs,hfk,rfl,hS4⟩
   clear hsc hS3
   obtain ⟨fa,fc,rfl⟩:=fnds_sl hfk hS4
   have hS5:Sat w0 w4 (osl 3 1 (.slice (some ⟨bk,off,none⟩) L.segs.length sc) (ints L.segs)::LogRep p m L::MedRep m M::F):=hS4.sb
   by_cases h1:(Frm.scan (L.bytes M s).1).2.2=0
   rotate_left
   ·have hb1:((Frm.scan (L.bytes M s).1).2.2==0)=false:=by rw [beq_eq_false_iff_ne];exact h1
    have Hf:=uQ (show Rep.split (lbt L M) L.segs (k+1)=Rep.split (lbt L M) L.segs k by rw [Hu.out,if_neg (fun h=>h H0.out),if_neg (fun h=>h1 h.1)])
    clear h1 hS4 hfs hfk
    go_wp2_with fail
    go_roundg (0+k)
    case measure=>omega
    case rel=>exact ⟨k,rfl,Nat.le_of_succ_le hk'.out,by first|rfl|go_num,He.out.trans Hf.out,hS5⟩
   have hb1:((Frm.scan (L.bytes M s).1).2.2==0)=true:=beq_iff_eq.2 h1
   have hen:=ended_c (w:=w4) fs hfk (by
    have:=Frm.scan_count (L.bytes M s).1
    rw [← hfs,List.length_map]at this
    have:=Hbl.out;omega) (Sat.rd hS4)
   rw [hfs]at hen
   clear hS4 hfs hfk
   by_cases h2:Rep.endedF (Frm.scan (L.bytes M s).1).1=true
   ·have Hf:=uQ (show Rep.split (lbt L M) L.segs (k+1)=(k+1,0) by rw [Hu.out,if_neg (fun h=>h H0.out),if_pos ⟨h1,h2⟩])
    rw [h2]at hen
    clear h1 h2
    go_wp2_with fail
    refine hen.mono ?_
    rintro ee w5 ⟨v,rfl,rfl,rfl⟩
    clear hen
    go_wp2_with fail
    go_ret2
    rw [He.out,Hf.out]
    exact ⟨_,rfl,rfl,hS5⟩
   ·have Hf:=uQ (show Rep.split (lbt L M) L.segs (k+1)=Rep.split (lbt L M) L.segs k by rw [Hu.out,if_neg (fun h=>h H0.out),if_neg (fun h=>h2 h.2)])
    rw [Bool.not_eq_true]at h2
    rw [h2]at hen
    clear h1 h2
    go_wp2_with fail
    refine hen.mono ?_
    rintro ee w5 ⟨v,rfl,rfl,rfl⟩
    clear hen
    go_wp2_with fail
    go_roundg (0+k)
    case measure=>omega
    case rel=>exact ⟨k,rfl,Nat.le_of_succ_le hk'.out,by first|rfl|go_num,He.out.trans Hf.out,hS5⟩
end
section
variable {P:Program}{w0 w:World}{t ty:TypeId}
theorem res_cell {L R:List HProp}{b:Nat}{T:TypeId}{cs:Array Value}{fn:Func}{p:Tmp}{tmps:Array Value}{d:TypeDesc} (hf:fn.results=#[.cell p ty]) (hs:Sat w0 w L) (hp:tmps.getD p undef = .pointer (some ⟨b,0,none⟩)) (k:Pick (pt b (.cells cs T (0,0))) L R)
  (hu:P.underlying ty=some d) (hd:d.isRow=true) (hi:(P.info? ty).map (·.size)=some cs.size):(results fn tmps).run P w = .ok (.agg cs) w:=by
 have hl:=run_loadVar_row (P:=P) w b T ty cs (0,0) d (hs.pick k).at hu (by cases d <;> simp_all [TypeDesc.isRow]) hi
 have e:(results fn tmps).run P w=((asAddr (tmps.getD p undef)).run P w).andThen fun a w₁=>(loadVar ty a).run P w₁:=by
  simp only [results,hf]
  simp [Sem.run_bind,Result.andThen]
 rw [e,hp]
 simp [asAddr,hl,Result.andThen]
end
end Go.Proofs.YtjbhhbnopnmcnaaGreatDoor
namespace Go.Rep
def lastOf (bt:Told) (ns:List Int):Int×Int:=
 if (split bt ns ns.length).2≠0 then (0,(split bt ns ns.length).2) else if (split bt ns ns.length).1=0 then (-1,0) else (ns.getD ((split bt ns ns.length).1 - 1) 0,0)
end Go.Rep
namespace Go.Proofs.YtjbhhbnopnmcnaaGreatDoor
open Go Go.Sl Go.Med Go.MapKept Go.RowKit
section
variable {w0 w:World}{F:List HProp}{p m K:Nat}{L:Seg.Log}{M:Med}{sv:Value}
theorem ints_cell {sv:Value}{l:List Int}{i:Nat}{s:Int} (h:rdsl 1 sv (ints l) w) (hs:l[i]?=some s):∃ bk off c,sv = .slice (some ⟨bk,off,none⟩) l.length c∧w.cell? ⟨bk,off+i,none⟩=some (.int .i64 s):=by
 obtain ⟨bk,off,cc,hsv,hcell⟩:=osl_row (f:=fun i:Int=>[Value.int .i64 i]) (k:=1) (l:=l) (fun u _=>rfl) (by rw [show ints l=l.flatMap fun i=>[Value.int .i64 i] from by unfold ints;exact List.map_eq_flatMap]at h;exact h) hs dCz
 have f0:=hcell 0 _ rfl
 rw [Nat.mul_one,Nat.add_zero]at f0
 exact ⟨bk,off,cc,hsv,f0⟩
theorem ints_sl {sv:Value}{l:List Int} (h:rdsl 1 sv (ints l) w):∃ a c,sv = .slice a l.length c:=by
 obtain ⟨a,n,c,rfl,hl,_⟩:=h
 refine ⟨a,c,?_⟩
 rw [show (ints l).length=l.length from List.length_map ..,Nat.mul_one]at hl
 rw [hl]
set_option maxRecDepth 20000 in
theorem last_c (hL:L.Ok) (hM:M.Ok K) (hH:Ro w0 F Half) (h:Sat w0 w (LogRep p m L::MedRep m M::F)) :
  Calls Tryz.prog 58 #[ptr p] w (Rtn fun v w'=>v = .tuple #[.int .i64 (Rep.lastOf (lbt L M) L.segs).1,errno (Rep.lastOf (lbt L M) L.segs).2]∧Sat w0 w' (LogRep p m L::MedRep m M::F)):=by
 have Hlen:=uQ (show L.segs.length≤1073741824 from by unfold Seg.Log.segs;rw [List.length_map];have:=hL.len;omega)
 have hse:=lsegs_c hL h
 have HL:=uQ hL;have HM:=uQ hM;have HH:=uQ hH
 clear hL hM hH h
 go_enter Tryz.func58,Tryz.ntmps58
 go_wp2_with fail
 refine hse.mono ?_
 rintro ee w1 ⟨v,rfl,hS⟩
 clear hse
 have hsp:=split_c HL.out HM.out HH.out hS
 go_wp2_with fail
 refine hsp.mono ?_
 rintro ee w2 ⟨v',rfl,rfl,hS2⟩
 clear hsp hS
 have Hle:=uQ (Rep.split_le (lbt L M) L.segs L.segs.length)
 have HS:=uQ (hS2.sb:Sat w0 w2 (LogRep p m L::MedRep m M::F))
 have hrd:=Sat.rd hS2
 clear hS2
 by_cases h0:(Rep.split (lbt L M) L.segs L.segs.length).2=0
 ·have hb:((Rep.split (lbt L M) L.segs L.segs.length).2 != 0)=false:=by rw [h0];rfl
  by_cases h1:(Rep.split (lbt L M) L.segs L.segs.length).1=0
  ·have Hf:=uQ (show Rep.lastOf (lbt L M) L.segs=(-1,0) by unfold Rep.lastOf;rw [if_neg (fun h=>h h0),if_pos h1])
   have hb1:(((Rep.split (lbt L M) L.segs L.segs.length).1:Int)==0)=true:=by rw [h1];rfl
   clear hrd h0 h1
   go_wp2_with fail
   go_ret2
   rw [Hf.out]
   exact ⟨_,rfl,rfl,HS.out⟩
  ·have Hf:=uQ (show Rep.lastOf (lbt L M) L.segs=(L.segs.getD ((Rep.split (lbt L M) L.segs L.segs.length).1 - 1) 0,0) by unfold Rep.lastOf;rw [if_neg (fun h=>h h0),if_neg h1])
   have hle:=Hle.out
   generalize (Rep.split (lbt L M) L.segs L.segs.length).1=n at *
   have hb1:((n:Int)==0)=false:=by rw [beq_eq_false_iff_ne];omega
   have w1:IntKind.i64.wrap ((n:Int) - 1)=((n - 1:Nat):Int):=by rw [IntWalk.i64_in _ (by have:=Hlen.out;omega)];omega
   have hlt:n - 1<L.segs.length:=oQ
   have hs:L.segs[n - 1]?=some (L.segs.getD (n - 1) 0):=by rw [List.getD,List.getElem?_eq_getElem hlt];rfl
   generalize L.segs.getD (n - 1) 0=s at *
   generalize n - 1=j at *
   obtain ⟨bk,off,c,rfl,f0⟩:=ints_cell hrd hs
   have c1:(0:Int)≤(j:Int):=oQ
   have c2:(j:Int)<(L.segs.length:Int):=oQ
   clear hrd h0 h1 hs hlt hle
   go_wp2_with fail
   go_ret2
   rw [Hf.out]
   exact ⟨_,rfl,rfl,HS.out⟩
 ·have hb:((Rep.split (lbt L M) L.segs L.segs.length).2 != 0)=true:=by rw [bne_iff_ne];exact h0
  have Hf:=uQ (show Rep.lastOf (lbt L M) L.segs=(0,(Rep.split (lbt L M) L.segs L.segs.length).2) by unfold Rep.lastOf;rw [if_pos h0])
  clear hrd h0
  go_wp2_with fail
  go_ret2
  rw [Hf.out]
  exact ⟨_,rfl,rfl,HS.out⟩
end
section
variable {P:Program}{w0 w:World}{ops:Array Oper}{rest:List Oper}{a:Act}{Q:Exit→Act→World→Prop}{dst:Option Tmp}{t ty:TypeId}{pos:String}{after:Array Edge}{x y:Operand}{v v1 v2:Value}{i1 i2:Nat}
theorem wl_build2 (h1:a.eval x=v1) (h2:a.eval y=v2) (hr:∀ w,(Instr.build ty #[(i1,v1),(i2,v2)]).run P w = .ok v w) (h:wpList P ops Q rest (a.put dst v) w) :
  wpList P ops Q (⟨dst,.build ty #[(i1,x),(i2,y)],t,pos,after,none⟩::rest) a w:=
 wpList_plain rfl fun _ hK=>by
  unfold Oper.wp execOp
  simp only [List.map_toArray,List.map_cons,List.map_nil,h1,h2,Sem.run_bind,hr,Result.andThen_ok,Sem.run_pure]
  exact hK _ _ h
theorem wl_build0 (hr:∀ w,(Instr.build ty #[]).run P w = .ok v w) (h:wpList P ops Q rest (a.put dst v) w):wpList P ops Q (⟨dst,.build ty #[],t,pos,after,none⟩::rest) a w:=
 wpList_plain rfl fun _ hK=>by
  unfold Oper.wp execOp
  simp only [List.map_toArray,List.map_nil,Sem.run_bind,hr,Result.andThen_ok,Sem.run_pure]
  exact hK _ _ h
theorem res_tct {L R:List HProp}{b:Nat}{T:TypeId}{cs:Array Value}{fn:Func}{t p u:Tmp}{tmps:Array Value}{d:TypeDesc} (hf:fn.results=#[.tmp t,.cell p ty,.tmp u]) (hs:Sat w0 w L) (hp:tmps.getD p undef = .pointer (some ⟨b,0,none⟩)) (k:Pick (pt b (.cells cs T (0,0))) L R)
  (hu:P.underlying ty=some d) (hd:d.isRow=true) (hi:(P.info? ty).map (·.size)=some cs.size):(results fn tmps).run P w = .ok (.tuple #[tmps.getD t undef,.agg cs,tmps.getD u undef]) w:=by
 have hl:=run_loadVar_row (P:=P) w b T ty cs (0,0) d (hs.pick k).at hu (by cases d <;> simp_all [TypeDesc.isRow]) hi
 have e:(results fn tmps).run P w=((asAddr (tmps.getD p undef)).run P w).andThen fun a w₁=>((loadVar ty a).run P w₁).andThen fun v w₂=> .ok (.tuple #[tmps.getD t undef,v,tmps.getD u undef]) w₂:=by
  simp only [results,hf]
  simp [Sem.run_bind,Result.andThen]
 rw [e,hp]
 simp [asAddr,hl,Result.andThen]
theorem at_build2 (h:Stop (wpList P ops Q (⟨dst,.build ty #[(i1,x),(i2,y)],t,pos,after,none⟩::rest) a w)):wpList P ops Q (⟨dst,.build ty #[(i1,x),(i2,y)],t,pos,after,none⟩::rest) a w:=h.out
theorem at_build0 (h:Stop (wpList P ops Q (⟨dst,.build ty #[],t,pos,after,none⟩::rest) a w)):wpList P ops Q (⟨dst,.build ty #[],t,pos,after,none⟩::rest) a w:=h.out
end
section
variable {w0 w:World}{F:List HProp}
theorem plFlt:placesB Tryz.prog 33=some [(0,1),(1,1),(2,1),(3,32),(35,1)]:=by kernel_rfl
theorem run_flt2 (x y:Int) (w:World):(Instr.build 33 #[(0,.int .i64 x),(1,.int .i64 y)]).run Tryz.prog w = .ok (.agg (fltA ⟨x,y,0⟩)) w:=by
 have h:=run_build (P:=Tryz.prog) [(0,.int .i64 x),(1,.int .i64 y)] plFlt zFlt (by
  intro p hp
  have hzz:(Value.agg (fltA Rep.Flt.zero)).cells.size=36:=by rfl
  rw [hzz]
  rcases List.mem_cons.1 hp with rfl|hp
  ·exact ⟨0,rfl,by show 0+1≤36;omega⟩
  ·rw [List.mem_singleton.1 hp]
   exact ⟨1,rfl,by show 1+1≤36;omega⟩) w
 exact h
theorem run_flt3 (x y z:Int) (w:World):(Instr.build 33 #[(0,.int .i64 x),(1,.int .i64 y),(2,.int .i64 z)]).run Tryz.prog w = .ok (.agg (fltA ⟨x,y,z⟩)) w:=by
 have h:=run_build (P:=Tryz.prog) [(0,.int .i64 x),(1,.int .i64 y),(2,.int .i64 z)] plFlt zFlt (by
  intro p hp
  have hzz:(Value.agg (fltA Rep.Flt.zero)).cells.size=36:=by rfl
  rw [hzz]
  rcases List.mem_cons.1 hp with rfl|hp
  ·exact ⟨0,rfl,by show 0+1≤36;omega⟩
  rcases List.mem_cons.1 hp with rfl|hp
  ·exact ⟨1,rfl,by show 1+1≤36;omega⟩
  ·rw [List.mem_singleton.1 hp]
   exact ⟨2,rfl,by show 2+1≤36;omega⟩) w
 exact h
theorem run_flt0 (w:World):(Instr.build 33 #[]).run Tryz.prog w = .ok (.agg (fltA Rep.Flt.zero)) w:=run_build (P:=Tryz.prog) [] plFlt zFlt (by simp) w
set_option maxRecDepth 20000 in
theorem fault_c (s:Int) (at_:Nat) (h:Sat w0 w F):Calls Tryz.prog 99 #[.int .i64 s,.int .i64 at_] w (Rtn fun v w'=>v = .agg (fltA (Rep.fault s at_))∧Sat w0 w' F):=by
 have hone:∀ f,(fltA f).size=36:=fun f=>rfl
 by_cases h0:at_=0
 ·have hb:((at_:Int)==0)=true:=by rw [h0];rfl
  have e:=uQ (show Rep.fault s at_=⟨1,s,0⟩ from if_pos h0)
  clear h0
  go_enter Tryz.func99,Tryz.ntmps99
  go_wp2_with (with_reducible apply at_alloc)
  refine ⟨wl_alloc zFlt h rfl ?_⟩
  intro b4 w4 h4
  go_wp2_with (first
   |((with_reducible refine at_build2 ⟨?_⟩);refine wl_build2 rFz rFz (fun w=>run_flt2 1 s w) ?_)
   |((with_reducible refine at_store ⟨?_⟩);refine wl_storeA (fltA ⟨1,s,0⟩) h4 rFz rFz rFz upd0 kRz rFz ?_;intro w9 h9))
  refine ⟨rfl,_,res_cell rfl h9 rFz pkD Tryz.underlying33 rfl kRz,?_⟩
  exact ⟨_,rfl,by rw [e.out],h9.drop⟩
 ·have hb:((at_:Int)==0)=false:=by rw [beq_eq_false_iff_ne];omega
  have e:=uQ (show Rep.fault s at_=⟨2,s,at_⟩ from if_neg h0)
  clear h0
  go_enter Tryz.func99,Tryz.ntmps99
  go_wp2_with (with_reducible apply at_alloc)
  refine ⟨wl_alloc zFlt h rfl ?_⟩
  intro b4 w4 h4
  go_wp2_with (first
   |((with_reducible refine at_build3 ⟨?_⟩);refine wl_build3 rFz rFz rFz (fun w=>run_flt3 2 s at_ w) ?_)
   |((with_reducible refine at_store ⟨?_⟩);refine wl_storeA (fltA ⟨2,s,at_⟩) h4 rFz rFz rFz upd0 kRz rFz ?_;intro w9 h9))
  refine ⟨rfl,_,res_cell rfl h9 rFz pkD Tryz.underlying33 rfl kRz,?_⟩
  exact ⟨_,rfl,by rw [e.out],h9.drop⟩
end
end Go.Proofs.YtjbhhbnopnmcnaaGreatDoor
namespace Go.Rep
open Go.Frm (Bs)
def runAt (bt:Told) (ns:List Int) (n:Nat):(Flt×Int) ⊕ Nat:=match bad bt (ns.take n) with
 |some x=> .inl x
 |none=> .inr n
def run (bt:Told) (ns:List Int):(Flt×Int) ⊕ Nat:=
 if (split bt ns ns.length).2≠0 then .inl (Flt.zero,(split bt ns ns.length).2) else runAt bt ns (split bt ns ns.length).1
theorem runAt_bad {bt:Told}{ns:List Int}{n:Nat}{x:Flt×Int} (h:bad bt (ns.take n)=some x):runAt bt ns n = .inl x:=by unfold runAt;rw [h]
theorem runAt_none {bt:Told}{ns:List Int}{n:Nat} (h:bad bt (ns.take n)=none):runAt bt ns n = .inr n:=by unfold runAt;rw [h]
def lastOfL (l:List Int):Int:=match l.getLast? with
 |some s=>s
 |none=> -1
theorem newest_mem:∀ {l:List Row}{k:Bs}{r:Row},newest l k=some r→r∈l
 |[],_,_,h=>by cases h
 |x::l,k,r,h=>by
  unfold newest at h
  split at h
  ·rename_i y hy
   cases h
   exact .tail _ (newest_mem hy)
  ·split at h
   ·cases h;exact .head _
   ·cases h
theorem ledger_place {l:List Row}{k:Bs}{a:Abt} (h:ledger l k=some a):∃ r∈l,a.place=rplc r:=by
 unfold ledger at h
 cases hn:newest l k with
 |none=>rw [hn]at h;cases h
 |some r=>rw [hn]at h;cases h;exact ⟨r,newest_mem hn,rfl⟩
theorem rowsOf_take (bt:Told) (ns:List Int) (n:Nat):∀ r∈rowsOf bt (ns.take n),r∈rowsOf bt ns:=fun r hr=>by
 unfold rowsOf at hr ⊢
 obtain ⟨s,hs,h⟩:=List.mem_flatMap.1 hr
 exact List.mem_flatMap.2 ⟨s,List.mem_of_mem_take hs,h⟩
theorem rowsOf_le (bt:Told) (ns:List Int) (n:Nat):(rowsOf bt (ns.take n)).length≤(rowsOf bt ns).length:=by
 have e:rowsOf bt ns=rowsOf bt (ns.take n)++rowsOf bt (ns.drop n):=by
  unfold rowsOf;rw [← List.flatMap_append,List.take_append_drop]
 rw [e,List.length_append];omega
theorem lastOfL_snoc (l:List Int) (s:Int):lastOfL (l++[s])=s:=by unfold lastOfL;rw [List.getLast?_append];rfl
end Go.Rep
namespace Go.Proofs.YtjbhhbnopnmcnaaGreatDoor
open Go Go.Sl Go.Med Go.MapKept Go.RowKit
section
variable {P:Program}{w0 w:World}{L R:List HProp}{b:Nat}{ops:Array Oper}{a:Act}{Q:Exit→Act→World→Prop}{K:Act→World→Prop}{E:Prop}{dst:Option Tmp}{t ty:TypeId}{pos:String}{after:Array Edge}{y:Operand}{v:Value}{cs:Array Value}
theorem eff_box (hs:Sat w0 w L) (hy:a.eval y=v) (hcs:v.cells=cs)
  (hK:∀ b w',Sat w0 w' (pt b (.cells cs ty (0,0))::L)→K (a.put dst (.pointer (some ⟨b,0,none⟩))) w') :
  if Region.wanted ⟨dst,.box ty y,t,pos,after,none⟩ (yielded ops a.tmps)=true then Oper.wp P ⟨dst,.box ty y,t,pos,after,none⟩ a w K Q else E:=by
 subst hcs
 refine eff_of rfl ?_
 have hS:=hs.alloc (.cells v.cells ty)
 unfold Oper.wp execOp
 have hrun:(Instr.box ty v).run P w = .ok (.pointer (some ⟨w.heap.size,0,none⟩)) (w.alloc (.cells v.cells ty)):=by
  simp [Instr.box,newVar,newRow,go_sem]
 simp only [hy,Sem.run_bind,Sem.run_pure,hrun,Result.andThen_ok]
 exact hK _ _ hS
end
section
variable {w0 w:World}{F R:List HProp}{sv:Value}
theorem tail_c {l:List Int}{n:Nat} (hn:n≤l.length) (h:Sat w0 w (osl 3 1 sv (ints l)::R)) :
  ∃ tv,(∀ w,(Instr.sliceAt 39 sv (some (.int .i64 n)) none none).run Tryz.prog w = .ok tv w)∧(∃ a' c',tv = .slice a' (l.length - n) c')∧∀ W,rdsl 1 sv (ints l) W→rdsl 1 tv (ints (l.drop n)) W:=by
 rcases h.osl_cases with ⟨rfl,he,h'⟩|⟨g,k,cap,cs,rfl,hl,hk,hc,hcm,htk,hp⟩
 ·obtain rfl:l=[]:=by simpa [ints] using he
  obtain rfl:n=0:=by simpa using hn
  refine ⟨.slice none 0 0,fun w=>by go_simp,⟨none,0,rfl⟩,fun W hW=>by simpa using hW⟩
 ·obtain rfl:k=l.length:=by simpa [ints] using hl.symm
  by_cases hce:cap=n
  ·have hd:l.drop n=[]:=List.drop_eq_nil_of_le oQ
   have e0:l.length - n=0:=oQ
   rw [hd,e0]
   have h1:n≤cap:=oQ
   have h2:l.length=n:=oQ
   refine ⟨.slice (some ⟨g,0,none⟩) 0 0,fun w=>?_,⟨_,_,rfl⟩,fun W hW=>⟨_,_,_,rfl,rfl,fun j x hj=>by cases hj⟩⟩
   have h4:(0:Int)≤(n:Int):=oQ
   have h5:(n:Int).toNat=n:=oQ
   subst hce
   go_simp
  ·refine ⟨.slice (some ⟨g,n,none⟩) (l.length - n) (cap - n),fun w=>?_,⟨_,_,rfl⟩,fun W hW=>?_⟩
   ·have h4:(0:Int)≤(n:Int):=by omega
    have h5:(n:Int).toNat=n:=oQ
    have h6:n≤cap:=oQ
    go_simp
   ·obtain ⟨a,n',c,he,hl',hx⟩:=hW
    cases he
    refine ⟨_,_,_,rfl,by unfold ints;rw [List.length_map,List.length_drop,Nat.mul_one],fun j x hj=>⟨_,rfl,?_⟩⟩
    have hj2:(ints l)[n+j]?=some x:=by
     unfold ints at hj ⊢
     rw [List.map_drop,List.getElem?_drop]at hj
     exact hj
    obtain ⟨ad,e,hc'⟩:=hx (n+j) x hj2
    cases e
    rw [adr_add,Nat.zero_add]at hc'
    rw [adr_add]
    exact hc'
theorem head_c {l:List Int}{n:Nat} (hn:n≤l.length) (h:Sat w0 w (osl 3 1 sv (ints l)::R)) :
  ∃ a' c',(∀ w,(Instr.sliceAt 39 sv none (some (.int .i64 n)) none).run Tryz.prog w = .ok (.slice a' n c') w)∧∀ W,rdsl 1 sv (ints l) W→rdsl 1 (.slice a' n c') (ints (l.take n)) W:=by
 rcases h.osl_cases with ⟨rfl,he,h'⟩|⟨g,k,cap,cs,rfl,hl,hk,hc,hcm,htk,hp⟩
 ·obtain rfl:l=[]:=by simpa [ints] using he
  obtain rfl:n=0:=by simpa using hn
  refine ⟨none,0,fun w=>by go_simp,fun W hW=>by simpa using hW⟩
 ·obtain rfl:k=l.length:=by simpa [ints] using hl.symm
  refine ⟨some ⟨g,0,none⟩,cap,fun w=>?_,fun W hW=>?_⟩
  ·have h4:(0:Int)≤(n:Int):=by omega
   have h5:(n:Int).toNat=n:=oQ
   have h6:n≤cap:=oQ
   go_simp
  ·obtain ⟨a,n',c,he,hl',hx⟩:=hW
   cases he
   refine ⟨_,_,_,rfl,by unfold ints;rw [List.length_map,List.length_take,Nat.mul_one];omega,fun j x hj=>?_⟩
   refine hx j x ?_
   unfold ints at hj ⊢
   rw [List.map_take,List.getElem?_take]at hj
   split at hj
   ·exact hj
   ·cases hj
theorem TabMA.lists {p B:Nat}{m:Frm.Bs→Option Rep.Abt} (h:Sat w0 w (TabMA p m B::R)):∃ kv,Tab.Lists m kv∧(∀ q∈kv,q.1.length=32)∧kv.length≤B:=by
 obtain ⟨t,sv',⟨ok,is,hb⟩,hS⟩:=TabMA.open h
 have hp:=List.mergeSort_perm (t.slots.filter fun x=>decide (x.st=1)) (fun a b:Tab.Slot Rep.Abt=>decide (¬ b.key<a.key))
 have hw:=List.pairwise_mergeSort (le:=fun a b:Tab.Slot Rep.Abt=>decide (¬ b.key<a.key)) (fun a b c h1 h2=>by
   rw [decide_eq_true_eq]at h1 h2 ⊢
   intro h3
   rcases Tab.bs_tri a.key b.key with q|q|q
   ·exact h2 (List.lt_trans h3 q)
   ·exact h2 (q ▸ h3)
   ·exact h1 q) (fun a b=>by
   rw [Bool.or_eq_true,decide_eq_true_eq,decide_eq_true_eq]
   by_cases q:b.key<a.key
   ·exact .inr fun q2=>List.lt_irrefl _ (List.lt_trans q q2)
   ·exact .inl q) (t.slots.filter fun x=>decide (x.st=1))
 obtain ⟨h1,h2⟩:=Tab.lists_of ok.good is hp (hw.imp fun {a b} q=>by rwa [decide_eq_true_eq]at q)
 refine ⟨_,h1,fun q hq=>?_,?_⟩
 ·obtain ⟨x,hx,rfl⟩:=List.mem_map.1 hq
  exact (h2 x hx).2
 ·rw [List.length_map,hp.length_eq,← List.countP_eq_length_filter]
  have e:t.slots.countP (fun x=>decide (x.st=1))=Tab.fulls t.slots:=by
   unfold Tab.fulls
   refine List.countP_congr fun x _=>?_
   simp
  have:=ok.n;omega
end
section
variable {P:Program}{w0 w:World}{L R:List HProp}{ops:Array Oper}{rest:List Oper}{a:Act}{Q:Exit→Act→World→Prop}{dst:Option Tmp}{t ty e:TypeId}{pos:String}{after:Array Edge}{x y s:Operand}{sz by':Nat}{v v1:Value}
theorem run_slice0 (hb:appB P t e sz by'=true) (w:World):(Instr.buildSlice t 0 #[]).run P w = .ok (.slice (some ⟨w.heap.size,0,none⟩) 0 0) (w.alloc (.cells #[] e)):=by
 obtain ⟨hu,i,z,hi,hz,e1,e2,e3,e4⟩:=appB_spec hb
 have hsz':(sizeOf e).run P w = .ok i.size w:=by simp [sizeOf,typeInfo,hi]
 have hf:Instr.fill (fun i'=>some (i' * i.size,i.size)) ((Array.range 0).map ((#[]:Array Value)[· % (#[]:Array Value).size]!)) []=some #[]:=by unfold Instr.fill;simp
 unfold Instr.buildSlice
 simp only [Sem.run_bind,run_underlying hu,Result.andThen_ok,hsz',Nat.zero_mul,if_neg (show ¬ (0>2^24) by omega)]
 simp [newRow,go_sem]
theorem at_slice0 (h:Stop (wpList P ops Q (⟨dst,.buildSlice ty 0 #[],t,pos,after,none⟩::rest) a w)):wpList P ops Q (⟨dst,.buildSlice ty 0 #[],t,pos,after,none⟩::rest) a w:=h.out
theorem wl_slice0 (hb:appB P ty e sz by'=true) (hs:Sat w0 w L)
  (hK:∀ b w',Sat w0 w' (osl e sz (.slice (some ⟨b,0,none⟩) 0 0) []::L)→wpList P ops Q rest (a.put dst (.slice (some ⟨b,0,none⟩) 0 0)) w'):wpList P ops Q (⟨dst,.buildSlice ty 0 #[],t,pos,after,none⟩::rest) a w:=by
 refine wpList_plain rfl fun _ hK'=>?_
 have hS:=hs.alloc (.cells #[] e)
 unfold Oper.wp execOp
 simp only [List.map_toArray,List.map_nil,Sem.run_bind,Sem.run_pure,run_slice0 hb w,Result.andThen_ok]
 exact hK' _ _ (hK _ _ (Sat.osl_of_pt hS (by simp) (Nat.le_refl _) (by simp) dCz (by simp)))
theorem wl_appD (e:TypeId) (sz by':Nat){xs ys:List Value} (hb:appB P ty e sz by'=true) (hs:Sat w0 w L) (hv:a.eval s=v) (hy:a.eval y=v1) (p:Pick (osl e sz v xs) L R) (hrd:rdsl sz v1 ys w) (h1:∀ u∈ys,u.oneCell'=true)
  (h63:xs.length+ys.length≤2147483648) (hby:by'≤65000)
  (hK:∀ v' w',Sat w0 w' (osl e sz v' (xs++ys)::R)→wpList P ops Q rest (a.put dst v') w') :
  wpList P ops Q (⟨dst,.call { callee:= .builtin .append,args:=#[s,y],argTypes:=#[ty,ty] },t,pos,after,none⟩::rest) a w:=by
 obtain ⟨hu,i,z,hi,hz,e1,e2,e3,e4⟩:=appB_spec hb
 subst e2
 refine wpList_append (w0:=w0) rfl s y ty rfl e i z hu hi hz e1 e3 e4 hv hy h1 (hs.pick p) hrd (by unfold maxLen;omega) ?_ fun v' w' hS _=>hK v' w' hS
 calc (xs.length+ys.length) * i.bytes≤2147483648 * 65000:=Nat.mul_le_mul h63 hby
  _≤140737488355328:=by decide
end
section
variable {w0 w:World}{F:List HProp}{p b n c B:Nat}{m:Frm.Bs→Option Seg.Plc}{xs:List Value}
set_option maxRecDepth 20000 in
theorem cloneL_c (h1:∀ u∈xs,u.oneCell'=true) (hl:xs.length≤2147483648) (h:Sat w0 w (osl 131 36 (.slice (some ⟨b,0,none⟩) n c) xs::F)) :
  Calls Tryz.prog 64 #[.slice (some ⟨b,0,none⟩) n c] w (Rtn fun v w'=>Sat w0 w' (osl 131 36 v xs::osl 131 36 (.slice (some ⟨b,0,none⟩) n c) xs::F)):=by
 have H1:=uQ h1;have Hl:=uQ hl
 have he:∀ w,(binOp .eql 128 (.slice (some ⟨b,0,none⟩) n c) (.slice none 0 0)).run Tryz.prog w = .ok (.bool false) w:=fun w=>by first|kernel_rfl|rfl
 clear h1 hl
 go_enter Tryz.func64,Tryz.ntmps64
 go_wp2_with (first
  |((with_reducible refine at_slice0 ⟨?_⟩);refine wl_slice0 (e:=131) (sz:=36) (by':=64) kRz h ?_;intro bN wN hN)
  |(with_reducible apply at_append))
 refine ⟨wl_appD 131 36 64 kRz hN rFz rFz pick0 (Sat.rd hN.drop) H1.out (by have:=Hl.out;simp only [List.length_nil];omega) dCz ?_⟩
 intro v' w' hS
 rw [List.nil_append]at hS
 go_wp2_with fail
 go_ret
 exact ⟨_,rfl,hS⟩
theorem slots_one (s:List (Tab.Slot Seg.Plc)):∀ u∈s.flatMap (slotL penc),u.oneCell'=true:=fun u hu=>by
 obtain ⟨x,_,hx⟩:=List.mem_flatMap.1 hu
 have:=(List.all_eq_true.1 (slotL_ones penc x (penc_ones _))) u hx
 exact this
set_option maxRecDepth 20000 in
theorem copyL_c (hB:B≤14000000) (h:Sat w0 w (TabML p m B::F)) :
  Calls Tryz.prog 35 #[ptr p] w (Rtn fun v w'=>∃ q,v=ptr q∧Sat w0 w' (TabML q m B::TabML p m B::F)):=by
 obtain ⟨t,sv,⟨ok,is,hb⟩,hR⟩:=TabML.open h
 have hsz:t.slots.length≤56000008:=by have:=ok.size;omega
 have Hlen:=uQ (show ∀ x∈t.slots,(slotL penc x).length=36 from fun x hx=>slotL_len penc x (ok.good.key x hx) 3 (penc_len _))
 have Hp0:=uQ ok.good.pos_len
 have Hxl:=uQ (show (t.slots.flatMap (slotL penc)).length=t.slots.length * 36 from (rows_len Hlen.out).trans (Nat.mul_comm _ _))
 obtain ⟨la,lc,rfl⟩:=osl_rows Hlen.out (Sat.rd (hR.pick pick1)) dCz
 obtain ⟨bs,rfl⟩:∃ bs,la=some ⟨bs,0,none⟩:=by
  rcases Sat.osl_cases (hR.pick pick1) with ⟨_,he,_⟩|⟨b,n,cap,cs,he,_⟩
  ·have:=congrArg List.length he
   have:=Hxl.out
   have:=Hp0.out
   simp only [List.length_nil]at *;omega
  ·cases he;exact ⟨b,rfl⟩
 have hok:=okL_c Hp0.out hR
 have Hok:=uQ ok;have His:=uQ is;have Hb:=uQ hb;have Hsz:=uQ hsz
 clear h ok is hb hsz hB
 go_enter Tryz.func35,Tryz.ntmps35
 go_wp2_with fail
 refine hok.mono ?_
 rintro ee w1 ⟨v,rfl,rfl,rfl⟩
 clear hok
 go_wp2_with fail
 have hR1:=hR.drew
 clear hR
 refine wpL_begin [13,14,15] (fun w'=>w'.cell? ⟨p,0,none⟩=some (.slice (some ⟨bs,0,none⟩) t.slots.length lc)∧w'.cell? ⟨p,1,none⟩=some (.int .i64 t.n)∧w'.cell? ⟨p,2,none⟩=some (.int .i64 t.gone)) kRz ?_
 have hG:World.cell? _ ⟨p,0,none⟩=some (.slice (some ⟨bs,0,none⟩) t.slots.length lc)∧World.cell? _ ⟨p,1,none⟩=some (.int .i64 t.n)∧World.cell? _ ⟨p,2,none⟩=some (.int .i64 t.gone):=⟨hR1.cellAt 0 _ rfl,hR1.cellAt 1 _ rfl,hR1.cellAt 2 _ rfl⟩
 refine rP 0 ?_ (y:=mvQ)
 refine rP 1 ?_ (y:=nlQ)
 refine rP 2 ?_ (y:=flQ)
 refine rt 3 (h:=?_)
 refine rP 5 ?_ (y:=mvQ)
 refine rP 6 ?_ (y:=nlQ)
 refine rP 7 ?_ (y:=flQ)
 refine rt 8 (h:=?_)
 refine rP 9 ?_ (y:=mvQ)
 refine rP 10 ?_ (y:=nlQ)
 refine rP 11 ?_ (y:=flQ)
 refine rt 12 (h:=?_)
 clear hG
 refine rg_eff 4 evD kRz (fun K hK=>?_)
 (refine eff_call1 kRz evD ?_)
 refine (cloneL_c (slots_one _) (by rw [Hxl.out];have:=Hsz.out;omega) (hR1.sb:Sat w0 _ (osl 131 36 (.slice (some ⟨bs,0,none⟩) t.slots.length lc) (t.slots.flatMap (slotL penc))::tbPt p 133 (.slice (some ⟨bs,0,none⟩) t.slots.length lc) t.n t.gone::F))).mono ?_
 rintro ee w2 ⟨v,rfl,h2⟩
 refine hK _ _ (.inr (.inl ⟨h2.cellP pick2 0 rfl,h2.cellP pick2 1 rfl,h2.cellP pick2 2 rfl⟩)) ?_
 clear hK hR1
 obtain ⟨a2,c2,rfl⟩:=osl_rows Hlen.out (Sat.rd h2) dCz
 refine rp 13 (hy:=(by (refine Or.inl ⟨by rfl,?_⟩;((intro wq;go_simp);first|done|exact wQ)))) (h:=?_)
 refine rg_eff 14 evD kRz (fun K hK=>?_)
 refine eff_box (cs:=#[.slice a2 t.slots.length c2,.int .i64 t.n,.int .i64 t.gone]) h2 evD evD ?_
 intro q w3 h3
 refine hK _ _ (.inl rfl) ?_
 clear hK h2
 refine rP 15 ?_ (y:=asQ)
 refine wpL_done kRz ?_
 try simp only [ayQ]
 try go_frame
 go_wp2_with fail
 go_ret
 have h4:=TabML.shut Hok.out His.out Hb.out (h3.sb:Sat w0 w3 (tbPt p 133 (.slice (some ⟨bs,0,none⟩) t.slots.length lc) t.n t.gone::osl 131 36 (.slice (some ⟨bs,0,none⟩) t.slots.length lc) (t.slots.flatMap (slotL penc))::tbPt q 133 (.slice a2 t.slots.length c2) t.n t.gone::osl 131 36 (.slice a2 t.slots.length c2) (t.slots.flatMap (slotL penc))::F))
 exact ⟨_,rfl,q,rfl,TabML.shut Hok.out His.out Hb.out (h4.sb)⟩
theorem lenL_c (h:Sat w0 w (TabML p m B::F)) :
  Calls Tryz.prog 70 #[ptr p] w (Rtn fun v w'=>∃ t:Tab.Tb Seg.Plc,(t.Ok∧t.Is m)∧v = .int .i64 t.n∧w=w'):=by
 obtain ⟨t,sv,⟨ok,is,hb⟩,hR⟩:=TabML.open h
 have Hlen:=uQ (show ∀ x∈t.slots,(slotL penc x).length=36 from fun x hx=>slotL_len penc x (ok.good.key x hx) 3 (penc_len _))
 obtain ⟨la,lc,rfl⟩:=osl_rows Hlen.out (Sat.rd (hR.pick pick1)) dCz
 have hok:=okL_c ok.good.pos_len hR
 have e1:w.cell? ⟨p,1,none⟩=some (.int .i64 t.n):=hR.cellAt 1 _ rfl
 have H:=uQ (And.intro ok is)
 clear h ok is hb hR
 go_enter Tryz.func70,Tryz.ntmps70
 go_wp2_with fail
 refine hok.mono ?_
 rintro ee w1 ⟨v,rfl,rfl,rfl⟩
 clear hok
 go_wp2_with fail
 go_ret
 exact ⟨_,rfl,t,H.out,rfl,rfl⟩
end
def RunOut (w0:World) (F:List HProp) (bt:Rep.Told) (ns:List Int) (p m:Nat) (L:Seg.Log) (M:Med) (v:Value) (w':World):Prop:=
 match Rep.run bt ns with
 |.inl (fl,e)=>v = .tuple #[.pointer none,.agg (fltA fl),errno e]∧Sat w0 w' (LogRep p m L::MedRep m M::F)
 |.inr n=>∃ (ps pi:Nat) (uv tv av:Value) (kv:List (Frm.Bs×Rep.Abt)),v = .tuple #[ptr ps,.agg (fltA Rep.Flt.zero),errno 0] ∧
   (Tab.Lists (Rep.ledger (Rep.rowsOf bt (ns.take n))) kv∧(∀ q∈kv,q.1.length=32)∧kv.length≤(Rep.rowsOf bt (ns.take n)).length) ∧
   ((∃ a' c',tv = .slice a' (ns.length - n) c')∧∀ W,rdsl 1 av (ints ns) W→rdsl 1 tv (ints (ns.drop n)) W) ∧
   Sat w0 w' (stPt ps (Rep.lastOfL (ns.take n)) pi uv tv::TabML pi (Tab.mapOf (Rep.puts kv)) kv.length::osl 113 3 uv (((Rep.usesOf bt (ns.take n)).map (Rep.upd kv)).flatMap uenc)::osl 3 1 av (ints ns)::LogRep p m L::MedRep m M::F)
section
variable {w0 w:World}{F:List HProp}{p m K:Nat}{L:Seg.Log}{M:Med}
theorem zLed:zeroB Tryz.prog 173=some (.agg #[.pointer none]):=by kernel_rfl
set_option maxRecDepth 20000 in
theorem run_c (hL:L.Ok) (hM:M.Ok K) (hH:Ro w0 F Half) (hrows:(Rep.rowsOf (lbt L M) L.segs).length≤12000000) (hsz:∀ r∈Rep.rowsOf (lbt L M) L.segs,(r.2.size:Int)≤4294967296) (h:Sat w0 w (LogRep p m L::MedRep m M::F)) :
  Calls Tryz.prog 60 #[ptr p] w (Rtn fun v w'=>RunOut w0 F (lbt L M) L.segs p m L M v w'):=by
 have Hlen:=uQ (show L.segs.length≤1048576 from by unfold Seg.Log.segs;rw [List.length_map];have:=hL.len;omega)
 have hse:=lsegs_c hL h
 have Hnn:=uQ (show ∀ s∈L.segs,0≤s from fun s hs=>by
  unfold Seg.Log.segs at hs
  obtain ⟨x,hx,rfl⟩:=List.mem_map.1 hs
  exact (hL.nums x hx).1)
 have HL:=uQ hL;have HM:=uQ hM;have HH:=uQ hH;have Hrows:=uQ hrows;have Hsz:=uQ hsz
 clear hL hM hH hrows hsz
 go_enter Tryz.func60,Tryz.ntmps60
 go_wp2_with (with_reducible apply at_alloc)
 refine ⟨wl_alloc zFlt h rfl ?_⟩
 intro b3 w3 h3
 clear hse h
 go_wp2_with fail
 refine (lsegs_c HL.out (h3.pick pick1)).mono ?_
 rintro ee w4 ⟨sv,rfl,h4⟩
 have hsp:=split_c HL.out HM.out (Ro.os HH.out) (h4.sb:Sat w0 w4 (osl 3 1 sv (ints L.segs)::LogRep p m L::MedRep m M::pt b3 (.cells (fltA Rep.Flt.zero) 33 (0,0))::F))
 clear h3 h4
 go_wp2_with fail
 refine hsp.mono ?_
 rintro ee w5 ⟨v,rfl,rfl,h5⟩
 clear hsp
 by_cases h0:(Rep.split (lbt L M) L.segs L.segs.length).2=0
 rotate_left
 ·have hb:((Rep.split (lbt L M) L.segs L.segs.length).2 != 0)=true:=by rw [bne_iff_ne];exact h0
  have Hf:=uQ (show Rep.run (lbt L M) L.segs = .inl (Rep.Flt.zero,(Rep.split (lbt L M) L.segs L.segs.length).2) by unfold Rep.run;rw [if_pos h0])
  have h6:Sat w0 w5 (pt b3 (.cells (fltA Rep.Flt.zero) 33 (0,0))::LogRep p m L::MedRep m M::F):=h5.sb
  clear h0 h5
  go_wp2_with (first
   |((with_reducible refine at_build0 ⟨?_⟩);refine wl_build0 (fun w=>run_flt0 w) ?_)
   |((with_reducible refine at_store ⟨?_⟩);refine wl_storeA (fltA Rep.Flt.zero) h6 rFz rFz rFz upd0 kRz rFz ?_;intro w9 h9))
  refine ⟨rfl,_,res_tct rfl h9 rFz pkD Tryz.underlying33 rfl kRz,_,rfl,?_⟩
  unfold RunOut
  rw [Hf.out]
  exact ⟨rfl,h9.drop⟩
 have hb:((Rep.split (lbt L M) L.segs L.segs.length).2 != 0)=false:=by rw [h0];rfl
 have Hle:=uQ (Rep.split_le (lbt L M) L.segs L.segs.length)
 have Hf:=uQ (show Rep.run (lbt L M) L.segs=Rep.runAt (lbt L M) L.segs (Rep.split (lbt L M) L.segs L.segs.length).1 by unfold Rep.run;rw [if_neg (fun h=>h h0)])
 rw [h0]
 generalize (Rep.split (lbt L M) L.segs L.segs.length).1=n at *
 clear h0
 obtain ⟨tv,htl,⟨ta,tc,rfl⟩,htr⟩:=tail_c Hle.out h5
 have Htr:=uQ htr
 clear htr
 go_wp2_with fail
 have hG:True:=trivial
 have h6:=h5.drew
 clear h5
 refine wpL_begin [] (fun w'=>True) kRz ?_
 refine rP 1 ?_ (y:=mvQ)
 refine rP 2 ?_ (y:=mvQ)
 refine rP 3 ?_ (y:=(yl_slice_lo evD evD htl))
 refine rg_eff 0 evD kRz (fun K hK=>?_)
 refine eff_call [] kRz (by simp) ?_
 refine (newL_c h6).mono ?_
 rintro ee w7 ⟨v,rfl,pi,rfl,h7⟩
 refine hK _ _ (.inr (.inl trivial)) ?_
 clear hK h6
 refine rp 4 (hy:=(by (refine Or.inl ⟨by rfl,?_⟩;((intro wq;go_simp);first|done|exact wQ)))) (h:=?_)
 refine rg_eff 5 evD kRz (fun K hK=>?_)
 refine eff_box (cs:=#[.int .i64 (-1),ptr pi,.slice none 0 0,.slice ta (L.segs.length - n) tc]) h7 evD evD ?_
 intro ps w8 h8
 refine hK _ _ (.inr (.inl trivial)) ?_
 clear hK h7
 refine rP 6 ?_ (y:=asQ)
 refine wpL_done kRz ?_
 clear hG
 go_wp2_with fail
 refine (newA_c h8).mono ?_
 rintro ee w9 ⟨v,rfl,pg,rfl,h9⟩
 clear h8
 go_wp2_with (with_reducible apply at_alloc)
 refine ⟨wl_alloc zLed h9 rfl ?_⟩
 intro b9 w10 h10
 clear h9
 obtain ⟨ha,hc,hhl,hhr⟩:=head_c Hle.out (h10.sb:Sat w0 w10 (osl 3 1 sv (ints L.segs)::F))
 go_wp2_with ((with_reducible refine at_store ⟨?_⟩);refine wl_store (cs':=#[ptr pg]) h10 rFz evD rFz upd0 nLz kRz rFz ?_;intro w11 h11)
 have h12:Sat w0 w11 (stPt ps (Rep.lastOfL (L.segs.take 0)) pi (.slice none 0 0) (.slice ta (L.segs.length - n) tc)::osl 113 3 (.slice none 0 0) ((Rep.usesOf (lbt L M) (L.segs.take 0)).flatMap uenc)::TabML pi (fun _=>none) 0::pt b9 (.cells #[ptr pg] 173 (0,0)) ::
  TabMA pg (Rep.ledger (Rep.rowsOf (lbt L M) (L.segs.take 0))) (Rep.rowsOf (lbt L M) (L.segs.take 0)).length::pt b3 (.cells (fltA Rep.Flt.zero) 33 (0,0))::osl 3 1 sv (ints L.segs)::LogRep p m L::MedRep m M::F):=(Sat.osl_nil.2 h11).sb
 clear h10 h11 htl
 go_loopg [45] n (fun g iq wr=>∃ (i:Nat) (uv:Value),g=n - i∧i≤n∧iq = .int .i64 i∧Rep.bad (lbt L M) (L.segs.take i)=none∧Sat w0 wr (stPt ps (Rep.lastOfL (L.segs.take i)) pi uv (.slice ta (L.segs.length - n) tc)::osl 113 3 uv ((Rep.usesOf (lbt L M) (L.segs.take i)).flatMap uenc)::TabML pi (fun _=>none) 0::pt b9 (.cells #[ptr pg] 173 (0,0)) ::
  TabMA pg (Rep.ledger (Rep.rowsOf (lbt L M) (L.segs.take i))) (Rep.rowsOf (lbt L M) (L.segs.take i)).length::pt b3 (.cells (fltA Rep.Flt.zero) 33 (0,0))::osl 3 1 sv (ints L.segs)::LogRep p m L::MedRep m M::F))
 case atStart=>exact ⟨0,.slice none 0 0,rfl,Nat.zero_le _,rfl,rfl,h12⟩
 case round=>
  obtain ⟨i,uv,rfl,hi,rfl,hbad,hS⟩:=hrel
  clear h12
  have Hbad:=uQ hbad
  clear hbad
  by_cases hlt:i<n
  rotate_left
  ·obtain rfl:i=n:=by omega
   have c1:¬ (i:Int)<(i:Int):=oQ
   obtain ⟨kv,k1,k2,k3⟩:=TabMA.lists (hS.pk (A:=TabMA pg (Rep.ledger (Rep.rowsOf (lbt L M) (L.segs.take i))) (Rep.rowsOf (lbt L M) (L.segs.take i)).length))
   have k4:=Nat.le_trans (Rep.rowsOf_le (lbt L M) L.segs i) Hrows.out
   have hks:∀ q∈kv,q.1.length=32∧0≤q.2.place.size∧q.2.place.size≤4294967296:=fun q hq=>by
    obtain ⟨r,hr,e⟩:=Rep.ledger_place ((k1.mem q.1 q.2).1 hq)
    rw [e]
    exact ⟨k2 q hq,Int.natCast_nonneg _,Hsz.out r (Rep.rowsOf_take _ _ _ r hr)⟩
   have hfl:=fill_c (us:=Rep.usesOf (lbt L M) (L.segs.take i)) k1 oQ oQ hks (by unfold Rep.usesOf;rw [List.length_map,List.length_take];have:=Hlen.out;omega)
    (hS.sb:Sat w0 wr (stPt ps (Rep.lastOfL (L.segs.take i)) pi uv (.slice ta (L.segs.length - i) tc)::TabML pi (fun _=>none) 0::TabMA pg (Rep.ledger (Rep.rowsOf (lbt L M) (L.segs.take i))) (Rep.rowsOf (lbt L M) (L.segs.take i)).length ::
     osl 113 3 uv ((Rep.usesOf (lbt L M) (L.segs.take i)).flatMap uenc)::pt b3 (.cells (fltA Rep.Flt.zero) 33 (0,0))::osl 3 1 sv (ints L.segs)::LogRep p m L::MedRep m M::F))
   have K:=uQ (And.intro k1 (And.intro k2 k3))
   have Hg:=uQ (Hf.out.trans (Rep.runAt_none Hbad.out))
   have Htv:=uQ Htr.out
   clear k1 k2 k3 k4 hks hlt hi
   go_wp2_with ((with_reducible refine at_load ⟨?_⟩);refine wl_loadA (cs:=#[ptr pg]) hS rFz (pick_there (pick_there (pick_there pick0))) Tryz.underlying173 rfl kRz ?_)
   refine hfl.mono ?_
   rintro ee w14 ⟨v,rfl,h14⟩
   clear hfl hS
   go_wp2_with (first
    |((with_reducible refine at_build0 ⟨?_⟩);refine wl_build0 (fun w=>run_flt0 w) ?_)
    |((with_reducible refine at_store ⟨?_⟩);refine wl_storeA (fltA Rep.Flt.zero) h14 rFz rFz rFz (upd_there (upd_there (upd_there (upd_there upd0)))) kRz rFz ?_;intro w15 h15))
   refine ⟨rfl,_,res_tct rfl h15 rFz (pick_there (pick_there (pick_there (pick_there pick0)))) Tryz.underlying33 rfl kRz,_,rfl,?_⟩
   unfold RunOut
   rw [Hg.out]
   exact ⟨ps,pi,uv,.slice ta (L.segs.length - i) tc,sv,kv,rfl,K.out,⟨⟨ta,tc,rfl⟩,Htv.out⟩,h15.sb⟩
  have c1:(i:Int)<(n:Int):=oQ
  have hwi:IntKind.i64.wrap ((i:Int)+1)=(i:Int)+1:=IntWalk.i64_in _ (by have:=Hle.out;have:=Hlen.out;omega)
  have hni:(L.segs.take n).length=n:=by rw [List.length_take];have:=Hle.out;omega
  obtain ⟨s,hs⟩:∃ s,(L.segs.take n)[i]?=some s:=⟨_,List.getElem?_eq_getElem oQ⟩
  have hs2:L.segs[i]?=some s:=by rw [List.getElem?_take]at hs;rw [if_pos hlt]at hs;exact hs
  have Htk:=uQ (show L.segs.take (i+1)=L.segs.take i++[s] by rw [List.take_add_one,hs2,Option.toList_some])
  have Hspl:=uQ (show ∃ post,L.segs.take n=L.segs.take i++s::post by
   obtain ⟨h1,e⟩:=List.getElem?_eq_some_iff.1 hs
   refine ⟨(L.segs.take n).drop (i+1),?_⟩
   have e2:L.segs.take i=(L.segs.take n).take i:=by rw [List.take_take,Nat.min_eq_left (Nat.le_of_lt hlt)]
   rw [e2,← e,← List.drop_eq_getElem_cons h1,List.take_append_drop])
  have Hs0:=uQ (Hnn.out s (List.mem_of_getElem? hs2))
  obtain ⟨bk,off,c',hsv,f0⟩:=ints_cell (hhr _ (Sat.rd (hS.pk (A:=osl 3 1 sv (ints L.segs))))) hs
  rw [hni]at hsv
  cases hsv
  have hb:=lbytes_c HL.out HM.out s (hS.sb:Sat w0 wr (LogRep p m L::MedRep m M::stPt ps (Rep.lastOfL (L.segs.take i)) pi uv (.slice ta (L.segs.length - n) tc)::osl 113 3 uv ((Rep.usesOf (lbt L M) (L.segs.take i)).flatMap uenc)::TabML pi (fun _=>none) 0::pt b9 (.cells #[ptr pg] 173 (0,0)) ::
   TabMA pg (Rep.ledger (Rep.rowsOf (lbt L M) (L.segs.take i))) (Rep.rowsOf (lbt L M) (L.segs.take i)).length::pt b3 (.cells (fltA Rep.Flt.zero) 33 (0,0))::osl 3 1 sv (ints L.segs)::F))
  have Hlt:=uQ hlt
  clear hS hs hs2 hni hlt hi
  go_wp2_with fail
  refine hb.mono ?_
  rintro ee w20 ⟨v,rfl,bv,rfl,h20⟩
  clear hb f0
  obtain ⟨hcap,ca,cc,rfl⟩:=bsl_capL h20
  by_cases h0:(L.bytes M s).2=0
  rotate_left
  ·have hb1:((L.bytes M s).2 != 0)=true:=by rw [bne_iff_ne];exact h0
   have Hg:=uQ (show Rep.run (lbt L M) L.segs = .inl (Rep.Flt.zero,(L.bytes M s).2) by
    rw [Hf.out]
    obtain ⟨post,e⟩:=Hspl.out
    exact Rep.runAt_bad (by rw [e];exact Rep.bad_power Hbad.out h0))
   have h21:Sat w0 w20 (pt b3 (.cells (fltA Rep.Flt.zero) 33 (0,0))::LogRep p m L::MedRep m M::F):=h20.sb
   clear h20 h0 hcap
   go_wp2_with (first
    |((with_reducible refine at_build0 ⟨?_⟩);refine wl_build0 (fun w=>run_flt0 w) ?_)
    |((with_reducible refine at_store ⟨?_⟩);refine wl_storeA (fltA Rep.Flt.zero) h21 rFz rFz rFz upd0 kRz rFz ?_;intro w22 h22))
   refine ⟨rfl,_,res_tct rfl h22 rFz pkD Tryz.underlying33 rfl kRz,_,rfl,?_⟩
   unfold RunOut
   rw [Hg.out]
   exact ⟨rfl,h22.drop⟩
  have hb1:((L.bytes M s).2 != 0)=false:=by rw [h0];rfl
  have H0:=uQ h0
  rw [h0]
  clear h0
  have hbl:=Seg.bytes_len (L:=L) HM.out s
  have hsc:=fscan_c (w0:=w0) (w:=w20) (L.bytes M s).1 (Ro.bsl _ _) hcap (Ro.os HH.out) (Nat.le_trans hbl dCz) h20
  clear hcap
  go_wp2_with fail
  refine hsc.mono ?_
  rintro ee w21 ⟨v,rfl,fs,fv,hfs,hfk,rfl,h21⟩
  clear hsc h20
  obtain ⟨fa,fc,rfl⟩:=fnds_sl hfk h21
  by_cases h1:(Frm.scan (L.bytes M s).1).2.2=0
  rotate_left
  ·have hb2:((Frm.scan (L.bytes M s).1).2.2 != 0)=true:=by rw [bne_iff_ne];exact h1
   have Hg:=uQ (show Rep.run (lbt L M) L.segs = .inl (Rep.fault s (Frm.scan (L.bytes M s).1).2.1,13) by
    rw [Hf.out]
    obtain ⟨post,e⟩:=Hspl.out
    exact Rep.runAt_bad (by rw [e];exact Rep.bad_scan Hbad.out H0.out h1))
   have h22:Sat w0 w21 (pt b3 (.cells (fltA Rep.Flt.zero) 33 (0,0))::LogRep p m L::MedRep m M::F):=h21.sb
   clear h21 h1 hfs hfk
   go_wp2_with fail
   refine (fault_c s (Frm.scan (L.bytes M s).1).2.1 h22).mono ?_
   rintro ee w23 ⟨v,rfl,rfl,h23⟩
   clear h22
   go_wp2_with ((with_reducible refine at_store ⟨?_⟩);refine wl_storeA (fltA (Rep.fault s (Frm.scan (L.bytes M s).1).2.1)) h23 rFz rFz rFz upd0 kRz rFz ?_;intro w24 h24)
   refine ⟨rfl,_,res_tct rfl h24 rFz pkD Tryz.underlying33 rfl kRz,_,rfl,?_⟩
   unfold RunOut
   rw [Hg.out]
   exact ⟨rfl,h24.drop⟩
  have hb2:((Frm.scan (L.bytes M s).1).2.2 != 0)=false:=by rw [h1];rfl
  have H1:=uQ h1
  rw [h1]
  clear h1
  have h22:Sat w0 w21 (TabMA pg (Rep.ledger (Rep.rowsOf (lbt L M) (L.segs.take i)++(fs.take 0).map fun q=>(s,q.1))) ((Rep.rowsOf (lbt L M) (L.segs.take i)).length+0)::stPt ps (Rep.lastOfL (L.segs.take i)) pi uv (.slice ta (L.segs.length - n) tc)::osl 113 3 uv ((Rep.usesOf (lbt L M) (L.segs.take i)).flatMap uenc)::TabML pi (fun _=>none) 0::pt b9 (.cells #[ptr pg] 173 (0,0)) ::
   pt b3 (.cells (fltA Rep.Flt.zero) 33 (0,0))::osl 3 1 sv (ints L.segs)::LogRep p m L::MedRep m M::osl 180 36 (.slice fa fs.length fc) (fndsL fs)::dataF fs::F):=by
   have q:Sat w0 w21 (TabMA pg (Rep.ledger (Rep.rowsOf (lbt L M) (L.segs.take i))) (Rep.rowsOf (lbt L M) (L.segs.take i)).length::stPt ps (Rep.lastOfL (L.segs.take i)) pi uv (.slice ta (L.segs.length - n) tc)::osl 113 3 uv ((Rep.usesOf (lbt L M) (L.segs.take i)).flatMap uenc)::TabML pi (fun _=>none) 0::pt b9 (.cells #[ptr pg] 173 (0,0)) ::
   pt b3 (.cells (fltA Rep.Flt.zero) 33 (0,0))::osl 3 1 sv (ints L.segs)::LogRep p m L::MedRep m M::osl 180 36 (.slice fa fs.length fc) (fndsL fs)::dataF fs::F):=h21.sb
   rw [List.take_zero,List.map_nil,List.append_nil,Nat.add_zero]
   exact q
  have Hcnt:=uQ (show (Rep.rowsOf (lbt L M) (L.segs.take i)).length+fs.length≤12000000 by
   have q1:=Rep.rowsOf_le (lbt L M) L.segs (i+1)
   rw [Htk.out,Rep.rowsOf_snoc,List.length_append,List.length_map,show (Frm.scan (lbt L M s).1).1=fs.map (·.1) from hfs.symm,List.length_map]at q1
   exact Nat.le_trans q1 Hrows.out)
  have hfl:fs.length≤16777216:=by
   have:=Frm.scan_count (L.bytes M s).1
   rw [← hfs,List.length_map]at this;omega
  have Hfl:=uQ hfl;have Hfs:=uQ hfs;have Hfk:=uQ hfk
  clear h21 hbl hfs hfk
  go_wp2_with fail
  go_loopg [72] fs.length (fun g jq wr=>∃ j:Nat,g=fs.length - j∧j≤fs.length∧jq = .int .i64 j∧Sat w0 wr (TabMA pg (Rep.ledger (Rep.rowsOf (lbt L M) (L.segs.take i)++(fs.take j).map fun q=>(s,q.1))) ((Rep.rowsOf (lbt L M) (L.segs.take i)).length+j)::stPt ps (Rep.lastOfL (L.segs.take i)) pi uv (.slice ta (L.segs.length - n) tc)::osl 113 3 uv ((Rep.usesOf (lbt L M) (L.segs.take i)).flatMap uenc)::TabML pi (fun _=>none) 0::pt b9 (.cells #[ptr pg] 173 (0,0)) ::
   pt b3 (.cells (fltA Rep.Flt.zero) 33 (0,0))::osl 3 1 sv (ints L.segs)::LogRep p m L::MedRep m M::osl 180 36 (.slice fa fs.length fc) (fndsL fs)::dataF fs::F))
  case atStart=>exact ⟨0,rfl,Nat.zero_le _,rfl,h22⟩
  case round=>
   obtain ⟨j,rfl,hj,rfl,hS⟩:=hrel
   clear h22
   by_cases hjl:j<fs.length
   rotate_left
   ·obtain rfl:j=fs.length:=by omega
    have d1:¬ (fs.length:Int)<(fs.length:Int):=oQ
    rw [List.take_length]at hS
    clear hjl hj
    have hul:((Rep.usesOf (lbt L M) (L.segs.take i)).flatMap uenc).length≤2147483648:=by
     rw [rows_len (k:=3) fun u _=>rfl]
     unfold Rep.usesOf
     rw [List.length_map,List.length_take]
     have:=Hlen.out;omega
    go_wp2_with (first
     |((with_reducible refine at_store ⟨?_⟩);refine wl_store (cs':=#[.int .i64 s,ptr pi,uv,.slice ta (L.segs.length - n) tc]) hS rFz evD rFz (upd_there upd0) nLz kRz rFz ?_;intro w40 h40)
     |((with_reducible refine at_load ⟨?_⟩);refine wl_load1 h40 rFz (pick_there pick0) nLz evD kRz ?_)
     |(with_reducible apply at_build1))
    refine ⟨wl_build1 (e:=113) (sz:=3) (by':=24) kRz h40 rFz (cs:=#[.int .i64 s,.int .i64 ((L.bytes M s).1.length:Nat),.int .i64 0]) rfl rfl dCz ?_⟩
    intro b41 w41 h41
    go_wp2_with (with_reducible apply at_append)
    refine ⟨wl_app 113 3 24 kRz h41 rFz rFz (pick_there (pick_there (pick_there pick0))) pick0 rfl (Nat.le_refl 1) rFz hul (by show 3≤65536;decide) dCz rfl ?_⟩
    intro bA nA cA w42 h42
    go_wp2_with ((with_reducible refine at_store ⟨?_⟩);refine wl_store (cs':=#[.int .i64 s,ptr pi,.slice (some ⟨bA,0,none⟩) nA cA,.slice ta (L.segs.length - n) tc]) h42 rFz evD rFz (upd_there (upd_there upd0)) nLz kRz rFz ?_;intro w43 h43)
    have h44:Sat w0 w43 (stPt ps (Rep.lastOfL (L.segs.take (i+1))) pi (.slice (some ⟨bA,0,none⟩) nA cA) (.slice ta (L.segs.length - n) tc)::osl 113 3 (.slice (some ⟨bA,0,none⟩) nA cA) ((Rep.usesOf (lbt L M) (L.segs.take (i+1))).flatMap uenc)::TabML pi (fun _=>none) 0::pt b9 (.cells #[ptr pg] 173 (0,0)) ::
     TabMA pg (Rep.ledger (Rep.rowsOf (lbt L M) (L.segs.take (i+1)))) (Rep.rowsOf (lbt L M) (L.segs.take (i+1))).length::pt b3 (.cells (fltA Rep.Flt.zero) 33 (0,0))::osl 3 1 sv (ints L.segs)::LogRep p m L::MedRep m M::F):=by
     rw [Htk.out,Rep.lastOfL_snoc,Rep.usesOf_snoc,Rep.rowsOf_snoc,List.length_append,List.length_map,show (Frm.scan (lbt L M s).1).1=fs.map (·.1) from Hfs.out.symm,List.length_map,List.map_map,List.flatMap_append]
     exact h43.sb
    clear h40 h41 h42 h43 hS
    go_roundg (n - (i+1))
    case measure=>have:=Hlt.out;omega
    case rel=>exact ⟨i+1,.slice (some ⟨bA,0,none⟩) nA cA,rfl,Hlt.out,by first|rfl|go_num,by rw [Htk.out];exact Rep.bad_none Hbad.out H0.out H1.out,h44⟩
   have d1:(j:Int)<(fs.length:Int):=oQ
   have hwj:IntKind.i64.wrap ((j:Int)+1)=(j:Int)+1:=IntWalk.i64_in _ oQ
   obtain ⟨⟨f,dv⟩,hq⟩:∃ q,fs[j]?=some q:=⟨_,List.getElem?_eq_getElem hjl⟩
   have hkf:f.e.key.length=32:=Hfk.out _ (List.mem_of_getElem? hq)
   obtain ⟨da,dn,dc,rfl,_,_⟩:=dataF_ro hq wr (hS.pk (A:=dataF fs))
   obtain ⟨bk2,off2,c2,e2,hcell⟩:=osl_row (f:=fun q:Frm.Fnd×Value=>fndL q.1 q.2) (k:=36) (fun q hq=>fndL_len q.1 q.2 (Hfk.out q hq)) (Sat.rd (hS.pk (A:=osl 180 36 (.slice fa fs.length fc) (fndsL fs)))) hq dCz
   cases e2
   have hl36:(fndL f (.slice da dn dc)).length=36:=fndL_len _ _ hkf
   have Htj:=uQ (show (fs.take (j+1)).map (fun q=>(s,q.1))=(fs.take j).map (fun q=>(s,q.1))++[(s,f)] by rw [List.take_add_one,hq,Option.toList_some,List.map_append];rfl)
   have Hjl:=uQ hjl;have Hkf:=uQ hkf
   clear hq hkf hj
   go_wp2_with (first
    |((with_reducible refine at_load ⟨?_⟩);refine wl_loadW (b:=bk2) (o:=off2+j * 36) (fndL f (.slice da dn dc)) rFz hcell Tryz.underlying180 rfl (by rw [hl36];kernel_rfl) ?_)
    |(with_reducible apply at_alloc))
   refine ⟨wl_alloc zFnd hS rfl ?_⟩
   intro b17 w30 h30
   go_wp2_with (first
    |((with_reducible refine at_store ⟨?_⟩);refine wl_storeA (fndA f (.slice da dn dc)) h30 rFz rFz (by rw [fndA_size _ _ Hkf.out];rfl) upd0 (by rw [fndA_size _ _ Hkf.out];kernel_rfl) (fndA_ones _ _ _ _) ?_;intro w31 h31)
    |((with_reducible refine at_load ⟨?_⟩);refine wl_loadA (cs:=fndA f (.slice da dn dc)) h31 rFz pick0 Tryz.underlying180 rfl (by rw [fndA_size _ _ Hkf.out];kernel_rfl) ?_)
    |((with_reducible refine at_load ⟨?_⟩);refine wl_loadA (cs:=#[ptr pg]) h31 rFz (pick_there (pick_there (pick_there (pick_there (pick_there pick0))))) Tryz.underlying173 rfl kRz ?_))
   have hrl:=Rep.rowsOf_le (lbt L M) L.segs i
   refine (take_c (p:=pg) s f Hkf.out (by have:=Hrows.out;have:=Hfl.out;have:=Hjl.out;have:=Hcnt.out;omega) (h31.pick pick1)).mono ?_
   rintro ee w32 ⟨v,rfl,h32⟩
   clear h30 h31 hS hcell
   have hnn:∀ x∈Rep.rowsOf (lbt L M) (L.segs.take i)++(fs.take j).map (fun q=>(s,q.1)),0≤x.1:=fun x hx=>by
    rcases List.mem_append.1 hx with hx|hx
    ·unfold Rep.rowsOf at hx
     obtain ⟨u,hu,hx⟩:=List.mem_flatMap.1 hx
     obtain ⟨g,_,rfl⟩:=List.mem_map.1 hx
     exact Hnn.out u (List.mem_of_mem_take hu)
    ·obtain ⟨g,_,rfl⟩:=List.mem_map.1 hx
     exact Hs0.out
   rw [← Rep.ledger_snoc _ _ hnn,List.append_assoc,← Htj.out]at h32
   clear hnn
   go_wp2_with fail
   go_roundg (fs.length - (j+1))
   case measure=>have:=Hjl.out;omega
   case rel=>exact ⟨j+1,rfl,Hjl.out,by first|rfl|go_num,h32.sb⟩
end
end Go.Proofs.YtjbhhbnopnmcnaaGreatDoor
namespace Go.Frm
theorem read_tag {b:Bs} (h:(read b).2.2=0):(read b).1.tag=0∨(read b).1.tag=1∨(read b).1.tag=2:=by
 unfold read at *
 dsimp only at *
 split at h
 ·simp at h
 rename_i h9
 rw [if_neg h9]
 split at h
 ·simp at h
 rename_i hf
 rw [if_neg hf]
 split at h
 ·simp at h
 rename_i hl
 rw [if_neg hl]
 split at h
 ·simp at h
 rename_i hc
 rw [if_neg hc]
 have ht:b.getD 8 0=0∨b.getD 8 0=1∨b.getD 8 0=2:=by
  unfold fits at hf
  split at hf
  ·exact .inl aQ
  split at hf
  ·exact .inr (.inl aQ)
  split at hf
  ·exact .inr (.inr aQ)
  ·exact absurd rfl hf
 split
 all_goals
  dsimp only
  rcases ht with e|e|e <;> rw [e]
  ·exact .inl rfl
  ·exact .inr (.inl rfl)
  ·exact .inr (.inr rfl)
theorem scanL_ok:∀ (k:Nat) (b:Bs) (at_:Nat),∀ f∈(scanL k b at_).1,(f.e.tag=0∨f.e.tag=1∨f.e.tag=2)∧f.e.key.length=32∧9≤f.size∧f.size≤b.length
 |0,_,_,f,hf=>by cases hf
 |k+1,b,at_,f,hf=>by
  unfold scanL at hf
  split at hf
  ·cases hf
  split at hf
  ·cases hf
  rename_i he
  have he:(read b).2.2=0:=by simpa using he
  have h1:=read_ok he
  simp only at hf
  rcases List.mem_cons.1 hf with rfl|hf
  ·exact ⟨read_tag he,h1.2.2,h1.1,h1.2.1⟩
  ·have h2:=scanL_ok k _ _ f hf
   refine ⟨h2.1,h2.2.1,h2.2.2.1,Nat.le_trans h2.2.2.2 ?_⟩
   rw [List.length_drop];omega
theorem scan_ok (b:Bs):∀ f∈(scan b).1,(f.e.tag=0∨f.e.tag=1∨f.e.tag=2)∧f.e.key.length=32∧9≤f.size∧f.size≤b.length:=fun f hf=>by
 unfold scan at hf
 split at hf
 ·have h:=scanL_ok _ _ _ f hf
  refine ⟨h.1,h.2.1,h.2.2.1,Nat.le_trans h.2.2.2 ?_⟩
  rw [List.length_drop];omega
 ·cases hf
end Go.Frm
namespace Go.Rep
open Go.Frm (Bs Fnd)
open Go.Seg (Plc)
open Go.Tab
theorem rowsOf_mem {bt:Told}{ns:List Int}{r:Row} (h:r∈rowsOf bt ns):r.1∈ns∧r.2∈(Frm.scan (bt r.1).1).1:=by
 unfold rowsOf at h
 obtain ⟨s,hs,h⟩:=List.mem_flatMap.1 h
 obtain ⟨f,hf,rfl⟩:=List.mem_map.1 h
 exact ⟨hs,hf⟩
theorem rowsOf_rows {bt:Told}{ns:List Int} (hr:ns.Pairwise (· < ·)) (h0:∀ s∈ns,0≤s):Rows (rowsOf bt ns):=by
 refine ⟨fun r h=>(Frm.scan_ok _ _ (rowsOf_mem h).2).1,fun r h=>h0 _ (rowsOf_mem h).1,?_⟩
 unfold rowsOf
 rw [List.pairwise_flatMap]
 refine ⟨fun s _=>?_,hr.imp fun {a b} hab x hx y hy=>?_⟩
 ·rw [List.pairwise_map]
  exact List.pairwise_of_forall fun _ _=>Int.le_refl s
 ·obtain ⟨_,_,rfl⟩:=List.mem_map.1 hx
  obtain ⟨_,_,rfl⟩:=List.mem_map.1 hy
  exact Int.le_of_lt hab
end Go.Rep
namespace Go.Seg
open Go.Med
structure Fit (K:Nat) (D:Med):Prop where
 ok:D.Ok K
 small:D.Small
 files:D.files.length≤500+K
section
variable {φ:Nat→Nat}{V:Nat→Prop}{M D:Med}{K:Nat}{L:Log}
end
end Go.Seg
namespace Go.Proofs.YtjbhhbnopnmcnaaGreatDoor
open Go Go.Sl Go.Med Go.MapKept Go.RowKit
section
variable {P:Program}{w0 w:World}{L L':List HProp}{b o:Nat}{ops:Array Oper}{a:Act}{Q:Exit→Act→World→Prop}{dst:Option Tmp}{t ty T:TypeId}{pos:String}{after:Array Edge}{x y:Operand}{cs:Array Value}{v:Value}{K:Act→World→Prop}{E:Prop}
theorem eff_alloc (hz:zeroB P ty=some v) (hs:Sat w0 w L) (hcs:v.cells=cs)
  (hK:∀ b w',Sat w0 w' (pt b (.cells cs ty (0,0))::L)→K (a.put dst (.pointer (some ⟨b,0,none⟩))) w') :
  if Region.wanted ⟨dst,.alloc ty,t,pos,after,none⟩ (yielded ops a.tmps)=true then Oper.wp P ⟨dst,.alloc ty,t,pos,after,none⟩ a w K Q else E:=by
 subst hcs
 refine eff_of rfl ?_
 have hS:=hs.alloc (.cells v.cells ty)
 unfold Oper.wp execOp
 have hrun:(Instr.alloc ty true (.tuple #[])).run P w = .ok (.pointer (some ⟨w.heap.size,0,none⟩)) (w.alloc (.cells v.cells ty)):=by
  simp [Instr.alloc,run_zeroB hz w,newVar,newRow,go_sem,Result.andThen]
 simp only [Sem.run_bind,Sem.run_pure,hrun,Result.andThen_ok]
 exact hK _ _ hS
end
section
variable {w0 w:World}{F R:List HProp}{d i:Nat}{D:Med}{fsv fv nv wv v lv bv:Value}{xs:List RF}{x:RF}{g:Bag}{K:Nat}
section
variable {P:Program}{b o:Nat}{ops:Array Oper}{rest:List Oper}{a:Act}{Q:Exit→Act→World→Prop}{dst:Option Tmp}{t ty:Nat}{pos:String}{after:Array Edge}{y:Operand}
end
end
end Go.Proofs.YtjbhhbnopnmcnaaGreatDoor
namespace Go.Seg
open Go.Med
section
variable {K K':Nat}{M M':Med}{L:Log}{s t:ByteArray}{i:Nat}{sure opn:List (Plc×Frm.Ent)}
theorem app_lt:∀ (x y u v:Bs),x.length=y.length→x<y→x++u<y++v
 |[],[],_,_,_,h=>absurd h (List.not_lt_nil [])
 |[],_::_,_,_,h,_=>by simp at h
 |_::_,[],_,_,h,_=>by simp at h
 |a::x,b::y,u,v,hl,h=>by
  rw [List.cons_append,List.cons_append,List.cons_lt_cons_iff]
  rcases List.cons_lt_cons_iff.1 h with h1|⟨e,h1⟩
  ·exact .inl h1
  ·exact .inr ⟨e,app_lt x y u v (by simpa using hl) h1⟩
theorem app_lt_r:∀ (x u v:Bs),u<v→x++u<x++v
 |[],_,_,h=>h
 |a::x,u,v,h=>by
  rw [List.cons_append,List.cons_append,List.cons_lt_cons_iff]
  exact .inr ⟨rfl,app_lt_r x u v h⟩
theorem digs_lt:∀ (k a b:Nat),a<b→b<10^k→digs a k<digs b k
 |0,a,b,h,hb=>by simp at hb;omega
 |k+1,a,b,h,hb=>by
  show digs (a / 10) k++[UInt8.ofNat (48+a%10)]<digs (b / 10) k++[UInt8.ofNat (48+b%10)]
  have hb':b / 10<10^k:=by rw [Nat.div_lt_iff_lt_mul oQ];rw [Nat.pow_succ]at hb;exact hb
  rcases Nat.lt_or_ge (a / 10) (b / 10) with q|q
  ·exact app_lt _ _ _ _ (by rw [digs_len,digs_len]) (digs_lt k _ _ q hb')
  ·have e:a / 10=b / 10:=by omega
   rw [e]
   refine app_lt_r _ _ _ ?_
   rw [List.cons_lt_cons_iff]
   left
   rw [UInt8.lt_iff_toNat_lt,UInt8.toNat_ofNat',UInt8.toNat_ofNat']
   omega
theorem name_lt {a b:Int} (h1:0≤a) (h2:a<b) (h3:b<1048576):lt (name a) (name b)=true:=by
 unfold name
 rw [if_neg oQ,if_neg oQ]
 unfold lt
 rw [decide_eq_true_eq]
 show lead++digs a.toNat 8<lead++digs b.toNat 8
 exact app_lt_r _ _ _ (digs_lt 8 _ _ oQ oQ)
theorem number_is {s:ByteArray} (h:(number s).2=true):0≤(number s).1∧(number s).1<1048576∧name (number s).1=s:=by
 unfold number at h ⊢
 dsimp only at h ⊢
 split at h
 ·rename_i hc
  rw [if_pos hc]
  obtain ⟨c1,c2,c3,c4⟩:=hc
  refine ⟨by simp only;omega,by simp only;omega,?_⟩
  simp only
  unfold name
  rw [if_neg oQ]
  have hl:(s.data.toList.drop 4).length=8:=by
   have:s.data.toList.length=12:=by first|exact c1|(rw [Array.length_toList];exact c1)
   rw [List.length_drop,this]
  have hd:=digs_val (s.data.toList.drop 4) c3
  rw [hl]at hd
  have e:lead++digs (Int.toNat ((val (s.data.toList.drop 4):Nat):Int)) 8=s.data.toList:=by
   rw [Int.toNat_natCast,hd,← c2,List.take_append_drop]
  rw [e]
 ·cases h
theorem found_mem {l:List ByteArray}{x:Int×Int} (h:x∈found M l):∃ t∈l,(number t).2=true∧x=((number t).1,(M.size t).1):=by
 unfold found at h
 obtain ⟨t,ht,he⟩:=List.mem_filterMap.1 h
 split at he
 ·rename_i hn;exact ⟨t,ht,hn,(Option.some.inj he).symm⟩
 ·cases he
theorem found_rise:∀ (l:List ByteArray),l.Pairwise (fun a b=>lt a b=true)→((found M l).map (·.1)).Pairwise (· < ·)
 |[],_=>List.Pairwise.nil
 |t::l,h=>by
  obtain ⟨h1,h2⟩:=List.pairwise_cons.1 h
  have ih:=found_rise l h2
  by_cases hn:(number t).2=true
  ·have e:found M (t::l)=((number t).1,(M.size t).1)::found M l:=by unfold found;rw [List.filterMap_cons];simp [hn]
   rw [e,List.map_cons,List.pairwise_cons]
   refine ⟨fun x hx=>?_,ih⟩
   obtain ⟨y,hy,rfl⟩:=List.mem_map.1 hx
   obtain ⟨u,hu,hun,rfl⟩:=found_mem hy
   have hlt:=h1 u hu
   obtain ⟨a1,a2,a3⟩:=number_is hn
   obtain ⟨b1,b2,b3⟩:=number_is hun
   rcases Int.lt_or_le (number t).1 (number u).1 with q|q
   ·exact q
   ·exfalso
    rcases Int.lt_or_eq_of_le q with q|q
    ·have h3:=name_lt b1 q a2
     rw [a3,b3]at h3
     have:=lt_trans hlt h3
     rw [lt_irrefl]at this;cases this
    ·rw [← a3,← q,b3,lt_irrefl]at hlt;cases hlt
  ·have e:found M (t::l)=found M l:=by unfold found;rw [List.filterMap_cons];simp [hn]
   rw [e];exact ih
theorem fresh_ok (ok:M.Ok K) (limit:Int) (h1:128≤limit) (h2:limit≤1048576):(fresh M limit).Ok:=by
 refine ⟨⟨h1,h2⟩,?_,fun x hx=>?_,fun x hx=>?_,⟨Int.le_refl _,by simp [fresh]⟩,fun hh=>by cases hh⟩
 ·refine found_rise M.list ?_
  unfold Med.list
  split
  ·exact List.Pairwise.nil
  ·rw [List.pairwise_map];exact ok.nowOk.srt
 ·obtain ⟨t,_,hn,rfl⟩:=found_mem hx
  have:=number_is hn
  exact ⟨this.1,this.2.1⟩
 ·obtain ⟨t,_,hn,rfl⟩:=found_mem hx
  unfold Med.size
  split
  ·simp
  split
  ·simp
  ·have:=(ok.file ‹Nat›).now_len
   simp only
   omega
end
section
variable {φ:Nat→Nat}{V:Nat→Prop}{M D:Med}{K:Nat}{L:Log}
end
structure Two (i:Nat) (L:Log) (M D:Med):Prop where
 log:L.Ok
 ok:M.Ok (i * 2000)
 fit:Fit (i * 2000) D
 side:∃ φ V,Side φ V M D
 fresh:L.fresh≤i
section
variable {i:Nat}{M D:Med}{L:Log}
end
end Go.Seg
namespace Go.Seg
open Go.Med
open Go.Frm (encs GoodE)
section
variable {K:Nat}{M M':Med}{L:Log}{s t:ByteArray}{i:Nat}
def nf (L:Log):List Int:=(L.l.map (·.1)).take (L.l.length - L.fresh.toNat)
variable {sure opn:List (Plc×Frm.Ent)}
end
end Go.Seg
namespace Go.Seg
open Go.Med
def Log.drop (t:List Int):Nat→Log→Med→(Log×Med)×Int
 |0,L,M=>if t=[] then ((L,M),0) else ((L,M.syncDir.1),M.syncDir.2)
 |k+1,L,M=>if (L.remove M (t.getD k 0)).2=0 then Log.drop t k (L.remove M (t.getD k 0)).1.1 (L.remove M (t.getD k 0)).1.2 else L.remove M (t.getD k 0)
section
variable {t:List Int}{L:Log}{M D:Med}{K i:Nat}
theorem drop_nil (h:t=[]):Log.drop t 0 L M=((L,M),0):=by unfold Log.drop;rw [if_pos h]
theorem drop_end (h:t≠[]):Log.drop t 0 L M=((L,M.syncDir.1),M.syncDir.2):=by unfold Log.drop;rw [if_neg h]
theorem drop_go {k:Nat} (h:(L.remove M (t.getD k 0)).2=0):Log.drop t (k+1) L M=Log.drop t k (L.remove M (t.getD k 0)).1.1 (L.remove M (t.getD k 0)).1.2:=by
 conv=>lhs;unfold Log.drop
 rw [if_pos h]
theorem drop_no {k:Nat} (h:(L.remove M (t.getD k 0)).2≠0):Log.drop t (k+1) L M=L.remove M (t.getD k 0):=by
 conv=>lhs;unfold Log.drop
 rw [if_neg h]
theorem remove_med (h:M.Ok K) (n:Int):(L.remove M n).1.2.Ok (K+1):=by
 unfold Log.remove
 cases L.at n with
 |none=>exact h.mono (Nat.le_succ K)
 |some i=>simp only;split <;> exact h.remove _
end
end Go.Seg
namespace Go.Proofs.YtjbhhbnopnmcnaaGreatDoor
open Go Go.Sl Go.Med Go.MapKept Go.RowKit
section
variable {w0 w:World}{F:List HProp}{p q m d K i:Nat}{L:Seg.Log}{M D:Med}{tv:Value}
set_option maxRecDepth 20000 in
theorem drop_c (t:List Int) (htl:t.length≤1048576) (hL:L.Ok) (hM:M.Ok K) (hK:K≤1048576) (hr:Ro w0 F (rdsl 1 tv (ints t))) (h:Sat w0 w (LogRep p m L::MedRep m M::F)) :
  Calls Tryz.prog 34 #[ptr p,tv] w (Rtn fun v w'=>v=errno (Seg.Log.drop t t.length L M).2∧Sat w0 w' (LogRep p m (Seg.Log.drop t t.length L M).1.1::MedRep m (Seg.Log.drop t t.length L M).1.2::F)):=by
 obtain ⟨ta,tc,rfl⟩:=ints_sl (hr w h.drop.drop)
 have Hr:=uQ hr;have Htl:=uQ htl;have HK:=uQ hK
 have w1:IntKind.i64.wrap ((t.length:Int) - 1)=(t.length:Int) - 1:=IntWalk.i64_in _ oQ
 have H0:=uQ (show L.Ok∧M.Ok K from ⟨hL,hM⟩)
 clear hr htl hK hL hM
 go_enter Tryz.func34,Tryz.ntmps34
 go_wp2_with fail
 go_loopg [5] t.length (fun g iq wr=>∃ (k:Nat) (L':Seg.Log) (M':Med),g=0+k∧k≤t.length∧iq = .int .i64 ((k:Int) - 1)∧Seg.Log.drop t t.length L M=Seg.Log.drop t k L' M'∧L'.Ok∧M'.Ok (K+(t.length - k))∧Sat w0 wr (LogRep p m L'::MedRep m M'::F))
 case atStart=>exact ⟨t.length,L,M,(Nat.zero_add _).symm,Nat.le_refl _,rfl,rfl,H0.out.1,H0.out.2.mono (Nat.le_add_right _ _),h⟩
 case round=>
  obtain ⟨k,L',M',rfl,hk,rfl,he,hL,hM,hS⟩:=hrel
  clear h
  cases k with
  |zero=>
   have c1:¬ (((0:Nat):Int) - 1)≥0:=by decide
   have He:=uQ he;have HM:=uQ hM;have HL:=uQ hL
   clear he hL hM hk
   by_cases ht:t=[]
   ·have hb:((t.length:Int)==0)=true:=by rw [ht];rfl
    have Hf:=uQ (Seg.drop_nil (L:=L') (M:=M') ht)
    clear ht
    go_wp2_with fail
    go_ret
    rw [He.out,Hf.out]
    exact ⟨_,rfl,rfl,hS⟩
   ·have hb:((t.length:Int)==0)=false:=by
     rw [beq_eq_false_iff_ne]
     intro e
     exact ht (List.eq_nil_of_length_eq_zero oQ)
    have Hf:=uQ (Seg.drop_end (L:=L') (M:=M') ht)
    clear ht
    go_wp2_with fail
    refine (lsync_c HM.out hS).mono ?_
    rintro ee w2 ⟨v,rfl,rfl,hS2⟩
    clear hS
    go_wp2_with fail
    go_ret
    rw [He.out,Hf.out]
    exact ⟨_,rfl,rfl,hS2⟩
  |succ k=>
   have e1:((k+1:Nat):Int) - 1=(k:Int):=oQ
   rw [e1]
   have c1:(k:Int)≥0:=oQ
   have c2:(k:Int)<(t.length:Int):=oQ
   have w2:IntKind.i64.wrap ((k:Int) - 1)=(k:Int) - 1:=IntWalk.i64_in _ (by have:=Htl.out;omega)
   obtain ⟨s,hs⟩:∃ s,t[k]?=some s:=⟨_,List.getElem?_eq_getElem oQ⟩
   have hgd:t.getD k 0=s:=by rw [List.getD,hs];rfl
   obtain ⟨bk,off,cc,e2,c0⟩:=ints_cell (Hr.out _ hS.drop.drop) hs
   cases e2
   have hrm:=lremove_c hL hM (by have:=HK.out;have:=Htl.out;omega) s hS
   have He:=uQ he;have Hk:=uQ hk
   have hlog:=hL.remove M' s
   have hmed:=Seg.remove_med (L:=L') hM s
   have Hgo:=uQ (fun (h0:(L'.remove M' s).2=0)=>Seg.drop_go (t:=t) (L:=L') (M:=M') (k:=k) (by rw [hgd];exact h0))
   have Hno:=uQ (fun (h0:(L'.remove M' s).2≠0)=>Seg.drop_no (t:=t) (L:=L') (M:=M') (k:=k) (by rw [hgd];exact h0))
   rw [hgd]at Hgo Hno
   clear he hk hs hgd hL hM hS
   generalize L'.remove M' s=r at *
   obtain ⟨⟨L2,M2⟩,e⟩:=r
   dsimp only at hrm hlog hmed Hgo Hno
   have Hlog:=uQ hlog;have Hmed:=uQ hmed
   clear hlog hmed
   go_wp2_with fail
   refine hrm.mono ?_
   rintro ee w3 ⟨v,rfl,rfl,hS3⟩
   clear hrm c0
   by_cases h0:e=0
   ·subst h0
    have Hf:=uQ (Hgo.out rfl)
    go_wp2_with fail
    go_roundg (0+k)
    case measure=>omega
    case rel=>exact ⟨k,L2,M2,rfl,Nat.le_of_succ_le Hk.out,by first|rfl|go_num,He.out.trans Hf.out,Hlog.out,Hmed.out.mono (by have:=Hk.out;omega),hS3⟩
   ·have hb:(e != 0)=true:=by rw [bne_iff_ne];exact h0
    have hb2:(e==0)=false:=by rw [beq_eq_false_iff_ne];exact h0
    have Hf:=uQ (Hno.out h0)
    clear h0
    go_wp2_with fail
    go_ret
    rw [He.out,Hf.out]
    exact ⟨_,rfl,rfl,hS3⟩
end
end Go.Proofs.YtjbhhbnopnmcnaaGreatDoor
namespace Go.Sl
open Go
section
variable {P:Program}{ops:Array Oper}{Q:Exit→Act→World→Prop}{late:List Nat}{G:World→Prop}{n:Nat}{l:Array Bool}{a:Act}{w:World}{oi oj:Oper}
theorem rg_eff2 (i j:Nat) (hi:ops.toList[i]?=some oi) (hj:ops.toList[j]?=some oj) (hr:Region.ready .any ops l=[i,j])
  (h1:∀ K:Act→World→Prop,(∀ a' w',keeps late G i w w'→wpL P ops Q late G n (l.setIfInBounds i true) a' w'→K a' w') →
   if Region.wanted oi (yielded ops a.tmps)=true then Oper.wp P oi a w K Q else K (a.put oi.dst undef) w)
  (h2:∀ K:Act→World→Prop,(∀ a' w',keeps late G j w w'→wpL P ops Q late G n (l.setIfInBounds j true) a' w'→K a' w') →
   if Region.wanted oj (yielded ops a.tmps)=true then Oper.wp P oj a w K Q else K (a.put oj.dst undef) w):wpL P ops Q late G (n+1) l a w:=by
 rw [Array.getElem?_toList]at hi hj
 refine ⟨(fun h0=>by rw [hr]at h0;cases h0),fun k hk=>?_⟩
 rw [hr]at hk
 have hk2:k=i∨k=j:=by simpa using hk
 rcases hk2 with rfl|rfl
 ·have:=h1 _ (fun a' w' h1 h2=>And.intro h1 h2)
  unfold wpOp
  rw [hi]
  show if Region.wanted oi (yielded ops a.tmps)=true then _ else _
  split
  ·rename_i hw;rw [if_pos hw]at this;exact .inl this
  ·rename_i hw;rw [if_neg hw]at this;exact this
 ·have:=h2 _ (fun a' w' h1 h2=>And.intro h1 h2)
  unfold wpOp
  rw [hj]
  show if Region.wanted oj (yielded ops a.tmps)=true then _ else _
  split
  ·rename_i hw;rw [if_pos hw]at this;exact .inl this
  ·rename_i hw;rw [if_neg hw]at this;exact this
end
end Go.Sl
namespace Go.Proofs.YtjbhhbnopnmcnaaGreatDoor
open Go Go.Sl Go.Med Go.MapKept Go.RowKit
abbrev rpPt (r m:Nat) (seg:Int) (p ps pn:Nat) (d:Bool):HProp:=pt r (.cells #[ptr m,.int .i64 seg,ptr p,ptr ps,ptr pn,.bool d] 89 (0,0))
section
variable {w0 w:World}{F:List HProp}{p m K r ps pn:Nat}{L:Seg.Log}{M:Med}{limit:Int}
theorem newestE_c (hM:M.Ok K) (hl:M.list=[]) (h:Sat w0 w (MedRep m M::F)):Calls Tryz.prog 23 #[ptr m] w (Rtn fun v w'=>v = .int .i64 (-1)∧Sat w0 w' (MedRep m M::F)):=by
 have hls:=list_c hM h
 go_enter Tryz.func23,Tryz.ntmps23
 go_wp2_with fail
 refine hls.mono ?_
 rintro e w1 ⟨v,rfl,hS,a,n,c,rfl⟩
 clear hls
 have hn:n=0:=by
  obtain ⟨_,_,_,he,hl2,_⟩:=Sat.rd hS
  cases he
  rw [hl]at hl2
  simpa [strs] using hl2.symm
 subst hn
 go_wp2_with fail
 go_loopg [3,11] 0 (fun g lv iq wr=>lv = .int .i64 (-1)∧iq = .int .i64 0∧wr=w1)
 case atStart=>exact ⟨rfl,rfl,rfl⟩
 case round=>
  obtain ⟨rfl,rfl,rfl⟩:=hrel
  go_wp2
  go_ret
  exact ⟨_,rfl,rfl,hS.drop⟩
theorem runOut0 {bt:Rep.Told}{v:Value} (h:RunOut w0 F bt [] p m L M v w):∃ (ps pi:Nat) (uv tv:Value),v = .tuple #[ptr ps,.agg (fltA Rep.Flt.zero),errno 0]∧(∃ a c,tv = .slice a 0 c) ∧
  Sat w0 w (stPt ps (-1) pi uv tv::TabML pi (fun _=>none) 0::osl 113 3 uv []::LogRep p m L::MedRep m M::F):=by
 have hr:Rep.run bt [] = .inr 0:=rfl
 unfold RunOut at h
 rw [hr]at h
 obtain ⟨ps,pi,uv,tv,av,kv,rfl,⟨_,_,hk⟩,⟨⟨a',c',rfl⟩,_⟩,hS⟩:=h
 obtain rfl:kv=[]:=List.length_eq_zero_iff.1 (Nat.le_zero.1 hk)
 exact ⟨ps,pi,uv,_,rfl,⟨a',c',rfl⟩,hS.sb⟩
set_option maxRecDepth 20000 in
theorem found0_c (hL:L.Ok) (hs:L.segs=[]) (hM:M.Ok K) (hl:M.list=[]) (hH:Ro w0 F Half) (h:Sat w0 w (LogRep p m L::MedRep m M::F)) :
  Calls Tryz.prog 33 #[ptr p,ptr m] w (Rtn fun v w'=>∃ (ps pi:Nat) (uv tv:Value),v = .tuple #[ptr ps,.agg (fltA Rep.Flt.zero),errno 0]∧(∃ a c,tv = .slice a 0 c) ∧
   Sat w0 w' (stPt ps (-1) pi uv tv::TabML pi (fun _=>none) 0::osl 113 3 uv []::LogRep p m L::MedRep m M::F)):=by
 have HL:=uQ hL;have Hs:=uQ hs;have HM:=uQ hM;have Hl:=uQ hl;have HH:=uQ hH
 clear hL hs hM hl hH
 go_enter Tryz.func33,Tryz.ntmps33
 go_wp2_with (with_reducible apply at_alloc)
 refine ⟨wl_alloc zFlt h rfl ?_⟩
 intro b5 w5 h5
 have hla:=last_c (F:=pt b5 (.cells (fltA Rep.Flt.zero) 33 (0,0))::F) HL.out HM.out (Ro.os HH.out) (h5.sb:Sat w0 w5 (LogRep p m L::MedRep m M::pt b5 (.cells (fltA Rep.Flt.zero) 33 (0,0))::F))
 rw [Hs.out,show Rep.lastOf (lbt L M) []=(-1,0) from rfl]at hla
 clear h h5
 go_wp2_with fail
 refine hla.mono ?_
 rintro ee w6 ⟨v,rfl,rfl,h6⟩
 clear hla
 go_wp2_with fail
 refine (newestE_c HM.out Hl.out (h6.sb:Sat w0 w6 (MedRep m M::LogRep p m L::pt b5 (.cells (fltA Rep.Flt.zero) 33 (0,0))::F))).mono ?_
 rintro ee w7 ⟨v,rfl,rfl,h7⟩
 clear h6
 have hru:=run_c (F:=pt b5 (.cells (fltA Rep.Flt.zero) 33 (0,0))::F) HL.out HM.out (Ro.os HH.out) (by rw [Hs.out];exact Nat.zero_le _) (by rw [Hs.out];intro r hr;cases hr) (h7.sb:Sat w0 w7 (LogRep p m L::MedRep m M::pt b5 (.cells (fltA Rep.Flt.zero) 33 (0,0))::F))
 clear h7
 go_wp2_with fail
 refine hru.mono ?_
 rintro ee w8 ⟨v,rfl,h8⟩
 clear hru
 rw [Hs.out]at h8
 obtain ⟨ps,pi,uv,tv,rfl,htv,h9⟩:=runOut0 h8
 clear h8
 have h10:Sat w0 w8 (pt b5 (.cells (fltA Rep.Flt.zero) 33 (0,0))::stPt ps (-1) pi uv tv::TabML pi (fun _=>none) 0::osl 113 3 uv []::LogRep p m L::MedRep m M::F):=h9.sb
 clear h9
 go_wp2_with ((with_reducible refine at_store ⟨?_⟩);refine wl_storeA (fltA Rep.Flt.zero) h10 rFz rFz rFz upd0 kRz rFz ?_;intro w11 h11)
 refine ⟨rfl,_,res_tct rfl h11 rFz pick0 Tryz.underlying33 rfl kRz,_,rfl,ps,pi,uv,tv,rfl,htv,h11.drop⟩
theorem plRepo:placesB Tryz.prog 89=some [(0,1),(1,1),(2,1),(3,1),(4,1),(5,1)]:=by kernel_rfl
theorem zRepo:zeroB Tryz.prog 89=some (.agg #[.pointer none,.int .i64 0,.pointer none,.pointer none,.pointer none,.bool false]):=by kernel_rfl
theorem run_repo5 (seg:Int) (w:World):(Instr.build 89 #[(0,ptr m),(1,.int .i64 seg),(2,ptr p),(3,ptr ps),(4,ptr pn)]).run Tryz.prog w = .ok (.agg #[ptr m,.int .i64 seg,ptr p,ptr ps,ptr pn,.bool false]) w:=
 run_build (P:=Tryz.prog) [(0,ptr m),(1,.int .i64 seg),(2,ptr p),(3,ptr ps),(4,ptr pn)] plRepo zRepo (by
  intro q hq
  simp only [List.mem_cons,List.not_mem_nil,or_false]at hq
  rcases hq with rfl|rfl|rfl|rfl|rfl
  ·exact ⟨0,rfl,by show 0+1≤6;decide⟩
  ·exact ⟨1,rfl,by show 1+1≤6;decide⟩
  ·exact ⟨2,rfl,by show 2+1≤6;decide⟩
  ·exact ⟨3,rfl,by show 3+1≤6;decide⟩
  ·exact ⟨4,rfl,by show 4+1≤6;decide⟩) w
set_option maxRecDepth 20000 in
theorem ropen0_c (h1:128≤limit) (h2:limit≤1048576) (hM:M.Ok K) (hK:K≤1048576) (ha:Seg.alive M=0) (hf:(Seg.fresh M limit).segs=[]) (hl:M.list=[]) (hH:Ro w0 F Half) (h:Sat w0 w (MedRep m M::F)) :
  Calls Tryz.prog 10 #[ptr m,.int .i64 limit] w (Rtn fun v w'=>∃ (r p ps pi pn:Nat) (uv:Value),v = .tuple #[ptr r,.agg (fltA Rep.Flt.zero),errno 0] ∧
   Sat w0 w' (rpPt r m limit p ps pn false::stPt ps (-1) pi uv (.slice none 0 0)::TabML pn (fun _=>none) 0::TabML pi (fun _=>none) 0::osl 113 3 uv []::LogRep p m (Seg.fresh M limit)::MedRep m M::F)):=by
 have HL:=uQ (Seg.fresh_ok hM limit h1 h2)
 have hop:=fun (w':World) (R:List HProp) (hw:Sat w0 w' (MedRep m M::R))=>open_c hM limit hw ha h1 h2
 have Hop:=uQ hop
 generalize Seg.fresh M limit=L at *
 have Hs:=uQ hf;have HM:=uQ hM;have HK:=uQ hK;have Hl:=uQ hl;have HH:=uQ hH
 clear h1 h2 hM hK ha hf hl hH hop
 go_enter Tryz.func10,Tryz.ntmps10
 go_wp2_with (with_reducible apply at_alloc)
 refine ⟨wl_alloc zFlt h rfl ?_⟩
 intro b5 w5 h5
 go_wp2_with fail
 refine (Hop.out _ _ (h5.sb:Sat w0 w5 (MedRep m M::pt b5 (.cells (fltA Rep.Flt.zero) 33 (0,0))::F))).mono ?_
 rintro ee w6 ⟨v,rfl,p,rfl,h6⟩
 clear h h5
 go_wp2_with fail
 refine (found0_c HL.out Hs.out HM.out Hl.out (Ro.os HH.out) h6).mono ?_
 rintro ee w7 ⟨v,rfl,ps,pi,uv,tv,rfl,⟨ta,tc,rfl⟩,h7⟩
 clear h6
 go_wp2_with (with_reducible apply at_alloc)
 refine ⟨wl_alloc zFlt h7 rfl ?_⟩
 intro b10 w8 h8
 clear h7
 go_wp2_with (with_reducible apply at_store)
 refine ⟨wl_storeA (fltA Rep.Flt.zero) h8 rFz rFz rFz upd0 kRz rFz ?_⟩
 intro w9 h9
 clear h8
 replace h9:Sat w0 w9 (LogRep p m L::MedRep m M::stPt ps (-1) pi uv (.slice ta 0 tc)::TabML pi (fun _=>none) 0::osl 113 3 uv []::pt b5 (.cells (fltA Rep.Flt.zero) 33 (0,0))::F):=h9.sb
 go_wp2_with ((with_reducible refine at_load ⟨?_⟩);refine wl_load1 aQ rFz pkD nLz evD kRz ?_)
 have hdr:=drop_c (tv:= .slice ta 0 tc) [] (Nat.zero_le _) HL.out HM.out HK.out (fun w _=>rdsl_nil 1 0 w |> fun _=>⟨ta,0,tc,rfl,rfl,fun j x hj=>by cases hj⟩) h9
 rw [show ([]:List Int).length=0 from rfl,Seg.drop_nil rfl]at hdr
 refine hdr.mono ?_
 rintro ee w10 ⟨v,rfl,rfl,h10⟩
 clear hdr h9
 go_wp2_with (with_reducible apply at_store)
 refine ⟨wl_store (cs':=#[.int .i64 (-1),ptr pi,uv,.slice none 0 0]) h10 rFz rFz rFz upd2 nLz kRz rFz ?_⟩
 intro w11 h11
 replace h11:Sat w0 w11 (TabML pi (fun _=>none) 0::stPt ps (-1) pi uv (.slice none 0 0)::LogRep p m L::MedRep m M::osl 113 3 uv []::pt b5 (.cells (fltA Rep.Flt.zero) 33 (0,0))::F):=h11.sb
 clear h10
 go_wp2_with ((with_reducible refine at_load ⟨?_⟩);refine wl_load1 h11 rFz pick1 nLz evD kRz ?_)
 refine (copyL_c dCz h11).mono ?_
 rintro ee w12 ⟨v,rfl,pn,rfl,h12⟩
 clear h11
 go_wp2_with (first
  |((with_reducible apply ug_at_build);refine ⟨?_⟩;first|refine wl_bld rFz (run_repo5 limit) ?_|refine wl_bld rFz run_flt0 ?_)
  |((with_reducible refine at_box ⟨?_⟩);refine wl_box h12 rFz rFz ?_;intro r w13 h13)
  |(with_reducible apply at_store))
 refine ⟨wl_storeA (fltA Rep.Flt.zero) (h13.sb:Sat w0 w13 (pt b5 (.cells (fltA Rep.Flt.zero) 33 (0,0))::rpPt r m limit p ps pn false::stPt ps (-1) pi uv (.slice none 0 0)::TabML pn (fun _=>none) 0::TabML pi (fun _=>none) 0::osl 113 3 uv []::LogRep p m L::MedRep m M::F)) rFz rFz rFz upd0 kRz rFz ?_⟩
 intro w14 h14
 go_wp2_with fail
 refine ⟨rfl,_,res_tct rfl h14 rFz pick0 Tryz.underlying33 rfl kRz,_,rfl,r,rfl,p,ps,pi,pn,uv,h14.drop⟩
theorem rokY_c {seg:Int}{d:Bool} (h:Sat w0 w (rpPt r m seg p ps pn d::F)):Calls Tryz.prog 42 #[ptr r] w (Rtn fun v w'=>v = .bool true∧w=w'):=by
 have e2:w.cell? ⟨r,2,none⟩=some (.pointer (some ⟨p,0,none⟩)):=h.cellAt 2 _ rfl
 go_enter Tryz.func42,Tryz.ntmps42
 go_wp2
 go_ret
 exact ⟨_,rfl,rfl,rfl⟩
end
end Go.Proofs.YtjbhhbnopnmcnaaGreatDoor
namespace Go.Tab
theorem count_one {α:Type} (p:α→Bool):∀ (s:List α) (i:Nat),i<s.length→(∀ j x,s[j]?=some x→(p x=true↔j=i))→s.countP p=1
 |[],i,h,_=>absurd h (Nat.not_lt_zero _)
 |x::s,0,_,h=>by
  have h0:p x=true:=(h 0 x rfl).2 rfl
  have h1:s.countP p=0:=List.countP_eq_zero.2 fun y hy hp=>by
   obtain ⟨j,hj,rfl⟩:=List.getElem_of_mem hy
   have:=(h (j+1) s[j] (by rw [List.getElem?_cons_succ,List.getElem?_eq_getElem hj])).1 hp
   omega
  rw [List.countP_cons,h0,h1];rfl
 |x::s,i+1,hl,h=>by
  have h0:p x=false:=by
   cases hx:p x with
   |false=>rfl
   |true=>have:=(h 0 x rfl).1 hx;omega
  rw [List.countP_cons,h0,count_one p s i (by simpa using hl) fun j y hy=>by rw [h (j+1) y (by rw [List.getElem?_cons_succ];exact hy)];omega];rfl
theorem one_len {V:Type}{t:Tb V}{k:Frm.Bs}{v:V} (h:t.Ok) (hi:t.Is (put (fun _=>none) k v)):t.n=1:=by
 rw [h.n]
 have hk:Has t.slots k v:=(hi k v).2 (by unfold put;rw [if_pos rfl])
 obtain ⟨i,x,hx,h1,hxk,_⟩:=hk
 refine count_one _ t.slots i (List.getElem?_eq_some_iff.1 hx).1 fun j y hy=>?_
 constructor
 ·intro hp
  have hy1:y.st=1:=by simpa using hp
  have hyk:y.key=k:=by
   have:=(hi y.key y.val).1 ⟨j,y,hy,hy1,rfl,rfl⟩
   unfold put at this
   split at this
   ·assumption
   ·cases this
  exact h.good.one hy hx hy1 h1 (hyk.trans hxk.symm)
 ·rintro rfl
  rw [hx]at hy
  cases hy
  simpa using h1
end Go.Tab
namespace Go.Proofs.YtjbhhbnopnmcnaaGreatDoor
open Go Go.Sl Go.Med Go.MapKept Go.RowKit
section
variable {w0 w:World}{F:List HProp}{p m K r ps pn B:Nat}{L:Seg.Log}{M:Med}{seg:Int}{d:Bool}{k:Frm.Bs}{mp:Frm.Bs→Option Seg.Plc}
theorem rlen_c (h:Sat w0 w (rpPt r m seg p ps pn d::TabML pn mp B::F)) :
  Calls Tryz.prog 40 #[ptr r] w (Rtn fun v w'=>∃ t:Tab.Tb Seg.Plc,(t.Ok∧t.Is mp)∧v = .int .i64 t.n∧w=w'):=by
 have hok:=rokY_c h
 have hle:=lenL_c (h.sb:Sat w0 w (TabML pn mp B::rpPt r m seg p ps pn d::F))
 have e4:w.cell? ⟨r,4,none⟩=some (.pointer (some ⟨pn,0,none⟩)):=h.cellAt 4 _ rfl
 clear h
 go_enter Tryz.func40,Tryz.ntmps40
 go_wp2_with fail
 refine hok.mono ?_
 rintro e w1 ⟨v,rfl,rfl,rfl⟩
 go_wp2_with fail
 refine hle.mono ?_
 rintro e w2 ⟨v,rfl,t,ht,rfl,rfl⟩
 go_wp2_with fail
 go_ret
 exact ⟨_,rfl,t,ht,rfl,rfl⟩
set_option maxRecDepth 20000 in
theorem rpput_c (hB:B≤134217000) (hk:k.length=32) (data:Frm.Bs) (da:Option Addr) (dc:Nat) (hd:Ro w0 F (rdsl 1 (.slice da data.length dc) (bys data))) (hLd:data.length≤1099511627) (hL:L.Ok) (hM:M.Ok K) (hKK:K+4≤1099511627776) (hH:Ro w0 F Half)
  (h0:(L.append M ⟨0,k,data⟩).2.2=0) (h:Sat w0 w (rpPt r m seg p ps pn d::TabML pn mp B::LogRep p m L::MedRep m M::F)) :
  Calls Tryz.prog 19 #[ptr r,.agg (bys k).toArray,.slice da data.length dc] w (Rtn fun v w'=>v=errno 0 ∧
   Sat w0 w' (rpPt r m seg p ps pn true::TabML pn (Tab.put mp k (L.append M ⟨0,k,data⟩).2.1) (B+1)::LogRep p m (L.append M ⟨0,k,data⟩).1.1::MedRep m (L.append M ⟨0,k,data⟩).1.2::F)):=by
 have hks:(bys k).length=32:=by rw [bys_len,hk]
 have hap:=uQ (fun (w':World) (R:List HProp) (hh:Ro w0 R Half) (hr:Ro w0 R (rdsl 1 (.slice da data.length dc) (bys data))) (hw:Sat w0 w' (LogRep p m L::MedRep m M::R))=>lappend_c ⟨0,k,data⟩ hk da dc hr hh hLd hL hM hKK hw)
 generalize L.append M ⟨0,k,data⟩=q at *
 obtain ⟨⟨L2,M2⟩,pc,e2⟩:=q
 dsimp only at h0 hap ⊢
 subst h0
 have HB:=uQ hB;have Hkey:=uQ hk;have Hks:=uQ hks;have Hd:=uQ hd;have HH:=uQ hH
 clear hB hk hks hd hLd hL hM hKK hH
 go_enter Tryz.func19,Tryz.ntmps19
 go_wp2_with (with_reducible apply at_box)
 refine ⟨wl_box h evD evD ?_⟩
 intro b4 w4 h4
 replace h4:Sat w0 w4 (pt b4 (.cells (bys k).toArray 31 (0,0))::rpPt r m seg p ps pn d::TabML pn mp B::LogRep p m L::MedRep m M::F):=h4
 clear h
 go_wp2_with fail
 refine (rokY_c (h4.sb:Sat w0 w4 (rpPt r m seg p ps pn d::pt b4 (.cells (bys k).toArray 31 (0,0))::TabML pn mp B::LogRep p m L::MedRep m M::F))).mono ?_
 rintro ee w5 ⟨v,rfl,rfl,rfl⟩
 go_wp2_with fail
 have h5:=h4.drew
 clear h4
 refine wpL_begin [7,8,9,10,12,13] (fun w'=>w'.cell? ⟨r,2,none⟩=some (.pointer (some ⟨p,0,none⟩))∧w'.rangeAt b4 0 (bys k)) kRz ?_
 have hGf:∀ (w':World) (R:List HProp) (dd:Bool),Sat w0 w' (pt b4 (.cells (bys k).toArray 31 (0,0))::rpPt r m seg p ps pn dd::R)→w'.cell? ⟨r,2,none⟩=some (.pointer (some ⟨p,0,none⟩))∧w'.rangeAt b4 0 (bys k):=fun w' R dd hw=>⟨hw.cellP pick1 2 rfl,fun j z hj=>by rw [Nat.zero_add];exact hw.cellP pick0 j (by rw [List.getElem?_toArray];exact hj)⟩
 have HGf:=uQ hGf
 have hG:=hGf _ _ _ h5
 clear hGf
 refine rP 0 ?_ (y:=mvQ)
 refine rP 1 ?_ (y:=nlQ)
 refine rP 2 ?_ (y:=flQ)
 refine rt 3 (h:=?_)
 refine rg_take 4 evD kRz i3z (tk_loadN (b:=b4) (o:=0) (bys k) rFz Tryz.underlying31 rfl (by rw [Hks.out];kernel_rfl) (fun w hw=>hw.2)) aQ gQ ?_
 clear hG
 refine rP 5 ?_ (y:=mvQ)
 refine rP 6 ?_ (y:=(yl_build3 evD evD evD (fun w=>run_buildEnt ⟨0,k,data⟩ Hkey.out da data.length dc w)))
 refine rg_eff2 7 11 evD evD kRz (fun K hK=>?_) (fun K hK=>?_)
 ·(refine eff_call2 kRz evD evD ?_)
  refine (hap.out _ _ (Ro.os HH.out) (Ro.os Hd.out) (h5.sb:Sat w0 _ (LogRep p m L::MedRep m M::pt b4 (.cells (bys k).toArray 31 (0,0))::rpPt r m seg p ps pn d::TabML pn mp B::F))).mono ?_
  rintro ee w6 ⟨v,rfl,rfl,h6⟩
  refine hK _ _ (.inl rfl) ?_
  clear hK hap h5
  refine rP 8 ?_ (y:=mvQ)
  refine rP 9 ?_ (y:=(yl_extract evD rnD))
  refine rP 10 ?_ (y:=(yl_extract evD rnD))
  refine rg_eff 11 evD kRz (fun K hK=>?_)
  refine eff_alloc (zValL) h6 rfl ?_
  intro b7 w7 h7
  refine hK _ _ (.inr (.inl (HGf.out _ _ _ (h7.sb:Sat w0 w7 (pt b4 (.cells (bys k).toArray 31 (0,0))::rpPt r m seg p ps pn d::TabML pn mp B::pt b7 (.cells (penc Seg.Plc.zero).toArray 87 (0,0))::LogRep p m L2::MedRep m M2::F))))) ?_
  clear hK h6
  have h8:Sat w0 w7 (pt b7 (.cells (penc Seg.Plc.zero).toArray 87 (0,0))::pt b4 (.cells (bys k).toArray 31 (0,0))::rpPt r m seg p ps pn d::TabML pn mp B::LogRep p m L2::MedRep m M2::F):=h7.sb
  clear h7
  refine rg_eff 12 evD kRz (fun K hK=>?_)
  refine eff_store (cs':=(penc pc).toArray) h8 evD evD rFz upd0 nLz kRz rFz ?_
  intro w9 h9
  refine hK _ _ (.inl rfl) ?_
  clear hK h8
  refine rP 13 ?_ (y:=asQ)
  refine wpL_done kRz ?_
  go_wp2_with fail
  have h10:=h9.drew
  clear h9
  replace h10:Sat w0 _ (pt b4 (.cells (bys k).toArray 31 (0,0))::rpPt r m seg p ps pn d::TabML pn mp B::pt b7 (.cells (penc pc).toArray 87 (0,0))::LogRep p m L2::MedRep m M2::F):=h10.sb
  refine wpL_begin [6] (fun w'=>w'.cell? ⟨r,4,none⟩=some (.pointer (some ⟨pn,0,none⟩))∧w'.rangeAt b4 0 (bys k)∧w'.rangeAt b7 0 (penc pc)) kRz ?_
  have hG:World.cell? _ ⟨r,4,none⟩=some (.pointer (some ⟨pn,0,none⟩))∧World.rangeAt _ b4 0 (bys k)∧World.rangeAt _ b7 0 (penc pc):=⟨h10.cellP pick1 4 rfl,fun j z hj=>by rw [Nat.zero_add];exact h10.cellP pick0 j (by rw [List.getElem?_toArray];exact hj),fun j z hj=>by rw [Nat.zero_add];exact h10.cellP pick3 j (by rw [List.getElem?_toArray];exact hj)⟩
  refine rP 0 ?_ (y:=mvQ)
  refine rP 1 ?_ (y:=nlQ)
  refine rP 2 ?_ (y:=flQ)
  refine rt 3 (h:=?_)
  refine rg_take 4 evD kRz i3z (tk_loadN (b:=b4) (o:=0) (bys k) rFz Tryz.underlying31 rfl (by rw [Hks.out];kernel_rfl) (fun w hw=>hw.2.1)) aQ gQ ?_
  refine rg_take 5 evD kRz i3z (tk_loadN (b:=b7) (o:=0) (penc pc) rFz Tryz.underlying87 rfl kRz (fun w hw=>hw.2.2)) aQ gQ ?_
  clear hG
  refine rg_eff 6 evD kRz (fun K hK=>?_)
  (refine eff_call3 kRz evD evD evD ?_)
  refine (putL_c HB.out Hkey.out pc (h10.sb:Sat w0 _ (TabML pn mp B::pt b4 (.cells (bys k).toArray 31 (0,0))::rpPt r m seg p ps pn d::pt b7 (.cells (penc pc).toArray 87 (0,0))::LogRep p m L2::MedRep m M2::F))).mono ?_
  rintro ee w11 ⟨v,rfl,h11⟩
  refine hK _ _ (.inl rfl) ?_
  clear hK h10
  refine wpL_done kRz ?_
  go_wp2_with (with_reducible apply at_store)
  refine ⟨wl_store (cs':=#[ptr m,.int .i64 seg,ptr p,ptr ps,ptr pn,.bool true]) (h11.sb:Sat w0 w11 (rpPt r m seg p ps pn d::TabML pn (Tab.put mp k pc) (B+1)::pt b4 (.cells (bys k).toArray 31 (0,0))::pt b7 (.cells (penc pc).toArray 87 (0,0))::LogRep p m L2::MedRep m M2::F)) rFz rFz rFz upd0 nLz kRz rFz ?_⟩
  intro w12 h12
  go_wp2_with fail
  go_ret
  exact ⟨_,rfl,rfl,h12.sb⟩
 ·refine eff_alloc (zValL) h5 rfl ?_
  intro b7 w6 h6
  refine hK _ _ (.inr (.inl (HGf.out _ _ _ (h6.sb:Sat w0 w6 (pt b4 (.cells (bys k).toArray 31 (0,0))::rpPt r m seg p ps pn d::pt b7 (.cells (penc Seg.Plc.zero).toArray 87 (0,0))::TabML pn mp B::LogRep p m L::MedRep m M::F))))) ?_
  clear hK h5
  refine rg_eff 7 evD kRz (fun K hK=>?_)
  (refine eff_call2 kRz evD evD ?_)
  refine (hap.out _ _ (Ro.os HH.out) (Ro.os Hd.out) (h6.sb:Sat w0 _ (LogRep p m L::MedRep m M::pt b7 (.cells (penc Seg.Plc.zero).toArray 87 (0,0))::pt b4 (.cells (bys k).toArray 31 (0,0))::rpPt r m seg p ps pn d::TabML pn mp B::F))).mono ?_
  rintro ee w7 ⟨v,rfl,rfl,h7⟩
  refine hK _ _ (.inl rfl) ?_
  clear hK hap h6
  refine rP 8 ?_ (y:=mvQ)
  refine rP 9 ?_ (y:=(yl_extract evD rnD))
  refine rP 10 ?_ (y:=(yl_extract evD rnD))
  have h8:Sat w0 w7 (pt b7 (.cells (penc Seg.Plc.zero).toArray 87 (0,0))::pt b4 (.cells (bys k).toArray 31 (0,0))::rpPt r m seg p ps pn d::TabML pn mp B::LogRep p m L2::MedRep m M2::F):=h7.sb
  clear h7
  refine rg_eff 12 evD kRz (fun K hK=>?_)
  refine eff_store (cs':=(penc pc).toArray) h8 evD evD rFz upd0 nLz kRz rFz ?_
  intro w9 h9
  refine hK _ _ (.inl rfl) ?_
  clear hK h8
  refine rP 13 ?_ (y:=asQ)
  refine wpL_done kRz ?_
  go_wp2_with fail
  have h10:=h9.drew
  clear h9
  replace h10:Sat w0 _ (pt b4 (.cells (bys k).toArray 31 (0,0))::rpPt r m seg p ps pn d::TabML pn mp B::pt b7 (.cells (penc pc).toArray 87 (0,0))::LogRep p m L2::MedRep m M2::F):=h10.sb
  refine wpL_begin [6] (fun w'=>w'.cell? ⟨r,4,none⟩=some (.pointer (some ⟨pn,0,none⟩))∧w'.rangeAt b4 0 (bys k)∧w'.rangeAt b7 0 (penc pc)) kRz ?_
  have hG:World.cell? _ ⟨r,4,none⟩=some (.pointer (some ⟨pn,0,none⟩))∧World.rangeAt _ b4 0 (bys k)∧World.rangeAt _ b7 0 (penc pc):=⟨h10.cellP pick1 4 rfl,fun j z hj=>by rw [Nat.zero_add];exact h10.cellP pick0 j (by rw [List.getElem?_toArray];exact hj),fun j z hj=>by rw [Nat.zero_add];exact h10.cellP pick3 j (by rw [List.getElem?_toArray];exact hj)⟩
  refine rP 0 ?_ (y:=mvQ)
  refine rP 1 ?_ (y:=nlQ)
  refine rP 2 ?_ (y:=flQ)
  refine rt 3 (h:=?_)
  refine rg_take 4 evD kRz i3z (tk_loadN (b:=b4) (o:=0) (bys k) rFz Tryz.underlying31 rfl (by rw [Hks.out];kernel_rfl) (fun w hw=>hw.2.1)) aQ gQ ?_
  refine rg_take 5 evD kRz i3z (tk_loadN (b:=b7) (o:=0) (penc pc) rFz Tryz.underlying87 rfl kRz (fun w hw=>hw.2.2)) aQ gQ ?_
  clear hG
  refine rg_eff 6 evD kRz (fun K hK=>?_)
  (refine eff_call3 kRz evD evD evD ?_)
  refine (putL_c HB.out Hkey.out pc (h10.sb:Sat w0 _ (TabML pn mp B::pt b4 (.cells (bys k).toArray 31 (0,0))::rpPt r m seg p ps pn d::pt b7 (.cells (penc pc).toArray 87 (0,0))::LogRep p m L2::MedRep m M2::F))).mono ?_
  rintro ee w11 ⟨v,rfl,h11⟩
  refine hK _ _ (.inl rfl) ?_
  clear hK h10
  refine wpL_done kRz ?_
  go_wp2_with (with_reducible apply at_store)
  refine ⟨wl_store (cs':=#[ptr m,.int .i64 seg,ptr p,ptr ps,ptr pn,.bool true]) (h11.sb:Sat w0 w11 (rpPt r m seg p ps pn d::TabML pn (Tab.put mp k pc) (B+1)::pt b4 (.cells (bys k).toArray 31 (0,0))::pt b7 (.cells (penc pc).toArray 87 (0,0))::LogRep p m L2::MedRep m M2::F)) rFz rFz rFz upd0 nLz kRz rFz ?_⟩
  intro w12 h12
  go_wp2_with fail
  go_ret
  exact ⟨_,rfl,rfl,h12.sb⟩
def oneK:Frm.Bs:=1::List.replicate 31 0
theorem oneK_len:oneK.length=32:=rfl
theorem run_id1 (w:World):(Instr.build 31 #[(0,.int .u8 1)]).run Tryz.prog w = .ok (.agg (bys oneK).toArray) w:=by kernel_rfl
theorem live17_append:((Seg.fresh liveM 200).append liveM ⟨0,oneK,[]⟩).2.2=0:=by rw [live_fresh];kernel_rfl
theorem live17_list:liveM.list=[]:=by kernel_rfl
set_option maxRecDepth 20000 in
theorem lives17_c (hH:Ro w0 F Half) (h:Sat w0 w F):Calls Tryz.prog 15 #[] w (Rtn fun v w'=>v = .bool true∧Sat w0 w' F):=by
 have hnew:Calls Tryz.prog 8 #[.int .i64 1000] w (Rtn fun v w'=>∃ m,v = .tuple #[ptr m,errno 0]∧Sat w0 w' (MedRep m liveM::F)):=new_yes 1000 dCz h
 have HH:=uQ hH
 have Hok:liveM.Ok 20:=Med.Ok.new 20 1000 dCz
 clear hH
 go_enter Tryz.func15,Tryz.ntmps15
 go_wp2_with fail
 refine hnew.mono ?_
 rintro e w1 ⟨v,rfl,m,rfl,hS⟩
 clear hnew h
 go_wp2_with fail
 refine (ropen0_c (K:=20) (limit:=200) dCz dCz Hok dCz live_alive (by rw [live_fresh];rfl) live17_list HH.out hS).mono ?_
 rintro e w2 ⟨v,rfl,r,p,ps,pi,pn,uv,rfl,h2⟩
 clear hS
 go_wp2_with (with_reducible apply at_alloc)
 refine ⟨wl_alloc zFlt h2 rfl ?_⟩
 intro b4 w4 h4
 go_wp2_with ((with_reducible refine at_store ⟨?_⟩);refine wl_storeA (fltA Rep.Flt.zero) h4 rFz rFz rFz upd0 kRz rFz ?_;intro w5 h5)
 go_wp2_with (first
  |((with_reducible apply ug_build);refine ⟨?_⟩;refine ug_op rFz ?_)
  |((with_reducible apply ug_at_build);refine ⟨?_⟩;refine wl_bld rFz run_id1 ?_))
 have h6:Sat w0 w5 (rpPt r m 200 p ps pn false::TabML pn (fun _=>none) 0::LogRep p m (Seg.fresh liveM 200)::MedRep m liveM::pt b4 (.cells (fltA Rep.Flt.zero) 33 (0,0))::stPt ps (-1) pi uv (.slice none 0 0)::TabML pi (fun _=>none) 0::osl 113 3 uv []::F):=h5.sb
 clear h2 h4 h5
 have hp:=rpput_c dCz oneK_len [] none 0 (fun w _=>rdsl_nil 1 0 w) (Nat.zero_le _) (Seg.fresh_ok Hok 200 dCz dCz) Hok dCz (Ro.os HH.out) live17_append h6
 generalize (Seg.fresh liveM 200).append liveM ⟨0,oneK,[]⟩=q at *
 obtain ⟨⟨L2,M2⟩,pc,e2⟩:=q
 refine hp.mono ?_
 rintro e w7 ⟨v,rfl,rfl,h7⟩
 clear hp h6
 go_wp2_with fail
 refine (rlen_c h7).mono ?_
 rintro e w8 ⟨v,rfl,t,⟨ok,is⟩,rfl,rfl⟩
 rw [Tab.one_len ok is]
 go_wp2_with fail
 go_ret
 exact ⟨_,rfl,rfl,h7.sb⟩
end
end Go.Proofs.YtjbhhbnopnmcnaaGreatDoor
