import Derived.Test.YtlimfgdbfadohaaGreatDoorJ10
set_option linter.unusedVariables false
set_option maxHeartbeats 128000000
namespace Go.Med
open Go.Seg (append_cases create_cases)
theorem xorAt_app {l b:Bs}{i:Nat} (h:i<l.length) (y:UInt8):xorAt (l++b) i y=xorAt l i y++b:=by
 unfold xorAt
 rw [List.set_append_left _ _ h,List.getD_eq_getElem?_getD,List.getElem?_append_left h,← List.getD_eq_getElem?_getD]
theorem rotWaits_do (f:Fil) (c:Chg) (i:Nat) (y:UInt8):∀ k,k≤f.waits.length→rotWaits (f.do c) i y k=(rotWaits f i y k).map (· ++ [c])
 |0,_=>rfl
 |k+1,h=>by
  have e:(f.do c).waits[k]?=f.waits[k]?:=List.getElem?_append_left oQ
  have ih:=rotWaits_do f c i y k oQ
  unfold rotWaits
  rw [e]
  cases hk:f.waits[k]? with
  |none=>exact ih
  |some x=>
   simp only
   rw [Fil.at_do f c k oQ]
   split
   ·exact ih
   split
   ·show some ((f.waits++[c]).set k _)=_
    rw [List.set_append_left _ _ oQ];rfl
   ·exact ih
theorem Fil.rot_do {K:Nat}{f:Fil} (h:f.Ok K){i:Nat} (hi:i<f.now.length) (y:UInt8) (b:Bs):(f.do ⟨false,0,b⟩).rot i y=(f.rot i y).do ⟨false,0,b⟩:=by
 have h1:rotWaits (f.do ⟨false,0,b⟩) i y (f.do ⟨false,0,b⟩).waits.length=(rotWaits f i y f.waits.length).map (· ++ [⟨false,0,b⟩]):=by
  have hl:(f.do ⟨false,0,b⟩).waits.length=f.waits.length+1:=by show (f.waits++[_]).length=_;rw [List.length_append];rfl
  have hg:(f.do ⟨false,0,b⟩).waits[f.waits.length]?=some ⟨false,0,b⟩:=by show (f.waits++[_])[f.waits.length]?=_;rw [List.getElem?_append_right (Nat.le_refl _),Nat.sub_self];rfl
  rw [hl,rotWaits,hg]
  simp only [Bool.false_eq_true,if_false]
  rw [Fil.at_do _ _ _ (Nat.le_refl _),← h.now,if_neg oQ]
  exact rotWaits_do f _ i y _ (Nat.le_refl _)
 have hn:(f.do ⟨false,0,b⟩).now=f.now++b:=rfl
 unfold Fil.rot
 rw [h1]
 cases rotWaits f i y f.waits.length with
 |none=>
  show (⟨xorAt f.fast i y,xorAt (f.now++b) i y,f.waits++[_]⟩:Fil)=⟨xorAt f.fast i y,xorAt f.now i y++b,f.waits++[_]⟩
  rw [xorAt_app hi]
 |some ws=>
  show (⟨f.fast,xorAt (f.now++b) i y,ws++[_]⟩:Fil)=⟨f.fast,xorAt f.now i y++b,ws++[_]⟩
  rw [xorAt_app hi]
theorem Fil.rot_now (f:Fil) (i:Nat) (y:UInt8):(f.rot i y).now=xorAt f.now i y:=by
 unfold Fil.rot
 split <;> rfl
theorem Fil.rot_sync (f:Fil) (i:Nat) (y:UInt8):f.sync.rot i y=(f.rot i y).sync:=by
 show (⟨xorAt f.now i y,xorAt f.now i y,[]⟩:Fil)=⟨(f.rot i y).now,(f.rot i y).now,[]⟩
 rw [Fil.rot_now]
def At (M:Med) (s:ByteArray) (i:Int) (k:Nat):Prop:=nget M.now s=some k∧0≤i∧i<((M.file k).now.length:Int)
section
variable {K:Nat}{M:Med}{s t:ByteArray}{i:Int}{k:Nat}{y:UInt8}{b:Bs}
theorem At.rot (h:At M s i k):(M.rot s i y).1=M.setFile k ((M.file k).rot i.toNat y):=by
 unfold Med.rot
 rw [h.1]
 simp only
 rw [if_neg (by have:=h.2;omega)]
theorem rot_none (h:¬ ∃ k,At M s i k):(M.rot s i y).1=M:=by
 unfold Med.rot
 cases hn:nget M.now s with
 |none=>rfl
 |some k=>
  simp only
  split
  ·rfl
  ·rename_i hc
   exact absurd ⟨k,hn,by omega,by omega⟩ h
theorem used_rot (ok:M.Ok K) (h:At M s i k):(M.setFile k ((M.file k).rot i.toNat y)).used=M.used:=by
 have hlt:k<M.files.length:=ok.nowOk.ids _ (nget_mem h.1)
 unfold Med.used
 congr 1
 refine List.map_congr_left fun p hp=>?_
 rw [file_set hlt]
 split
 ·rename_i e;rw [e,Fil.rot_now,xorAt_len]
 ·rfl
theorem set_set (M:Med) (j k:Nat) (f g:Fil) (h:j≠k):(M.setFile j f).setFile k g=(M.setFile k g).setFile j f:=by
 unfold Med.setFile
 simp only
 rw [List.set_comm _ _ h]
theorem set_same (M:Med) (k:Nat) (f g:Fil):(M.setFile k f).setFile k g=M.setFile k g:=by
 unfold Med.setFile
 simp only
 rw [List.set_set]
theorem rot_append (ok:M.Ok K) (q:Quiet M) (h:At M s i k) (h0:(M.append t b).2=0):(M.rot s i y).1.append t b=(((M.append t b).1.rot s i y).1,0)∧At (M.append t b).1 s i k:=by
 have hlt:k<M.files.length:=ok.nowOk.ids _ (nget_mem h.1)
 rcases append_cases q t b with ⟨h1,h2⟩|⟨j,h1,⟨h2,h3⟩|⟨h2,h3⟩⟩
 ·rw [h2]at h0;cases h0
 ·rw [h3]at h0;cases h0
 have hj:j<M.files.length:=ok.nowOk.ids _ (nget_mem h1)
 rw [h3]
 have hA:At (M.setFile j ((M.file j).do ⟨false,0,b⟩)) s i k:=by
  refine ⟨h.1,h.2.1,?_⟩
  rw [file_set hj]
  split
  ·rename_i e
   subst e
   show i<(((M.file k).now++b).length:Int)
   rw [List.length_append];have:=h.2.2;omega
  ·exact h.2.2
 refine ⟨?_,hA⟩
 have hq:=q.rot s i y
 rw [h.rot]at hq ⊢
 rw [hA.rot]
 rcases append_cases hq t b with ⟨g1,g2⟩|⟨j',g1,⟨g2,g3⟩|⟨g2,g3⟩⟩
 ·rw [show (M.setFile k ((M.file k).rot i.toNat y)).now=M.now from rfl,h1]at g1;cases g1
 ·rw [used_rot ok h]at g2;exact absurd g2 h2
 ·rw [show (M.setFile k ((M.file k).rot i.toNat y)).now=M.now from rfl,h1]at g1
  cases g1
  rw [g3,file_set hlt,file_set hj]
  by_cases e:j=k
  ·subst e
   rw [if_pos rfl,if_pos rfl,set_same,set_same,Fil.rot_do (ok.file j) (by have:=h.2;omega)]
  ·rw [if_neg e,if_neg (fun c=>e c.symm),set_set _ _ _ _ _ (fun c=>e c.symm)]
theorem rot_sync (ok:M.Ok K) (q:Quiet M) (h:At M s i k) (h0:(M.sync t).2=0):(M.rot s i y).1.sync t=(((M.sync t).1.rot s i y).1,0)∧At (M.sync t).1 s i k:=by
 have hlt:k<M.files.length:=ok.nowOk.ids _ (nget_mem h.1)
 cases hn:nget M.now t with
 |none=>
  unfold Med.sync at h0
  rw [q.off,hn]at h0
  cases h0
 |some j=>
  have hj:j<M.files.length:=ok.nowOk.ids _ (nget_mem hn)
  rw [q.sync_eq hn]
  have hA:At (M.setFile j (M.file j).sync) s i k:=by
   refine ⟨h.1,h.2.1,?_⟩
   rw [file_set hj]
   split
   ·rename_i e;subst e;exact h.2.2
   ·exact h.2.2
  refine ⟨?_,hA⟩
  have hq:=q.rot s i y
  rw [h.rot]at hq ⊢
  rw [hA.rot,hq.sync_eq (show nget (M.setFile k ((M.file k).rot i.toNat y)).now t=some j from hn),file_set hlt,file_set hj]
  by_cases e:j=k
  ·subst e
   rw [if_pos rfl,if_pos rfl,set_same,set_same,Fil.rot_sync]
  ·rw [if_neg e,if_neg (fun c=>e c.symm),set_set _ _ _ _ _ (fun c=>e c.symm)]
theorem rot_create (ok:M.Ok K) (q:Quiet M) (h:At M s i k) (h0:(M.create t).2=0):(M.rot s i y).1.create t=(((M.create t).1.rot s i y).1,0)∧At (M.create t).1 s i k∧nget M.now t=none:=by
 have hlt:k<M.files.length:=ok.nowOk.ids _ (nget_mem h.1)
 rcases create_cases q t with ⟨h1,_⟩|⟨hg,hn,hl,hc⟩
 ·exact absurd h0 h1
 rw [hc]
 have hne:s≠t:=fun e=>by have h1:=h.1;rw [e,hn]at h1;cases h1
 have hfk:∀ j,j<M.files.length→({ M with files:=M.files++[Fil.new],now:=nput M.now t M.files.length,waits:=M.waits++[⟨ByteArray.empty,t,M.files.length⟩] }:Med).file j=M.file j:=fun j hj=>by
  unfold Med.file
  simp only
  rw [List.getD_eq_getElem?_getD,List.getElem?_append_left hj,List.getD_eq_getElem?_getD]
 have hA:At ({ M with files:=M.files++[Fil.new],now:=nput M.now t M.files.length,waits:=M.waits++[⟨ByteArray.empty,t,M.files.length⟩] }:Med) s i k:=by
  refine ⟨?_,h.2.1,?_⟩
  ·show nget (nput M.now t M.files.length) s=some k
   rw [Seg.nget_put_ne hne];exact h.1
  ·rw [hfk k hlt];exact h.2.2
 refine ⟨?_,hA,hn⟩
 have hq:=q.rot s i y
 rw [h.rot]at hq ⊢
 rw [hA.rot,hfk k hlt]
 rcases create_cases hq t with ⟨g1,_⟩|⟨_,_,_,g⟩
 ·exfalso
  apply g1
  unfold Med.create
  rw [hq.off,hq.step,hg]
  simp only [Bool.false_eq_true,if_false,Bool.true_eq_false]
  rw [if_neg (by show ¬ (nget M.now t).isSome=true;rw [hn];simp),if_neg (by show ¬ 500≤M.now.length;omega)]
 ·rw [g]
  unfold Med.setFile
  simp only [List.length_set]
  rw [List.set_append_left _ _ hlt]
end
end Go.Med
namespace Go.Seg
open Go.Med
open Go.Frm (Bs Ent encs GoodE)
open Go.Rep
section
variable {K:Nat}{L:Log}{M:Med}{s:ByteArray}{i:Int}{k:Nat}{y:UInt8}{x:Ent}
theorem rot_lappend {r:Nat} (c:Calm K r M) (h:At M s i k) (hx:(Frm.encode x).2=0) (h0:(L.append M x).2.2=0) (hne:L.on=true→L.l≠[]) :
  L.append (M.rot s i y).1 x=(((L.append M x).1.1,((L.append M x).1.2.rot s i y).1),(L.append M x).2.1,0)∧At (L.append M x).1.2 s i k:=by
 cases hf:L.fits (Frm.encode x).1.length with
 |true=>
  rw [Log.append_grow hx hf]at h0 ⊢
  rw [Log.append_grow hx hf]
  unfold Log.grow at h0 ⊢
  cases hl:L.l.getLast? with
  |none=>exact absurd (List.getLast?_eq_none_iff.1 hl) (hne (fits_on' hf))
  |some u=>
   rw [hl]at h0
   dsimp only at h0 ⊢
   by_cases he:(M.append (name u.1) (Frm.encode x).1).2=0
   ·obtain ⟨e1,e2⟩:=rot_append c.ok c.quiet h he (y:=y)
    rw [if_pos he,e1,if_pos rfl]
    exact ⟨rfl,e2⟩
   ·rw [if_neg he]at h0;exact absurd h0 he
 |false=>
  rw [Log.append_begin hx hf]at h0 ⊢
  rw [Log.append_begin hx hf]
  have hsh:(L.shut M).2=0:=by
   unfold Log.begin at h0
   by_cases hh:(L.shut M).2=0
   ·exact hh
   ·rw [if_neg hh]at h0;exact absurd h0 hh
  have hS:L.shut (M.rot s i y).1=(((L.shut M).1.1,((L.shut M).1.2.rot s i y).1),0)∧At (L.shut M).1.2 s i k∧Calm (K+1) r (L.shut M).1.2:=by
   unfold Log.shut at hsh ⊢
   cases hl:L.l.getLast? with
   |none=>exact ⟨rfl,h,c.mono (Nat.le_succ K)⟩
   |some u=>
    rw [hl]at hsh
    dsimp only at hsh ⊢
    cases hon:L.on with
    |false=>exact ⟨rfl,h,c.mono (Nat.le_succ K)⟩
    |true=>
     rw [hon,if_pos rfl]at hsh
     rw [if_pos rfl,if_pos rfl]
     by_cases he:(M.sync (name u.1)).2=0
     ·obtain ⟨e1,e2⟩:=rot_sync c.ok c.quiet h he (y:=y)
      rw [if_pos he,e1,if_pos rfl]
      exact ⟨rfl,e2,c.sync _⟩
     ·rw [if_neg he]at hsh;exact absurd hsh he
  obtain ⟨s1,s2,s3⟩:=hS
  unfold Log.begin at h0 ⊢
  rw [if_pos hsh]at h0 ⊢
  rw [s1,if_pos rfl]
  dsimp only
  generalize (L.shut M).1.1=L1 at *
  generalize (L.shut M).1.2=M1 at *
  unfold Log.begin1 at h0 ⊢
  by_cases hm:1048576≤L1.next
  ·rw [if_pos hm]at h0;cases h0
  rw [if_neg hm]at h0 ⊢
  rw [if_neg hm]
  by_cases hc:(M1.create (name L1.next)).2=0
  ·obtain ⟨e1,e2,_⟩:=rot_create s3.ok s3.quiet s2 hc (y:=y)
   have c2:=s3.create (name L1.next)
   rw [e1]
   dsimp only
   rw [if_neg (fun e=>e hc)]at h0
   rw [if_neg (show ¬ (0:Int)≠0 from fun e=>e rfl),if_neg (show ¬ (M1.create (name L1.next)).2≠0 from fun e=>e hc)]
   generalize (M1.create (name L1.next)).1=M2 at *
   by_cases ha:(M2.append (name L1.next) (mag++(Frm.encode x).1)).2=0
   ·obtain ⟨g1,g2⟩:=rot_append c2.ok c2.quiet e2 ha (y:=y)
    rw [if_pos ha,g1,if_pos rfl]
    exact ⟨rfl,g2⟩
   ·rw [if_neg ha]at h0
    split at h0
    ·rename_i e11
     dsimp only at h0
     split at h0
     ·cases h0
     ·rename_i er;exact absurd h0 er
    ·exact absurd h0 ha
  ·rw [if_pos hc]at h0;exact absurd h0 hc
end
section
variable {K r E B n:Nat}{L:Log}{M:Med}{C:List (List Ent)}{s:ByteArray}{i:Int}{k:Nat}{y:UInt8}{x:Ent}{pl:Plc}
theorem lread_live (q:Quiet M) (pl:Plc):(L.read M pl).2≠12:=by
 unfold Log.read
 split
 ·decide
 have h1:(M.read (name pl.seg) pl.at_ pl.size).2≠12:=by
  rw [read_by q]
  split
  ·show (9:Int)≠12;decide
  split
  ·show (2:Int)≠12;decide
  split
  ·show (3:Int)≠12;decide
  ·show (0:Int)≠12;decide
 have h2:∀ b,(Frm.read b).2.2≠12:=fun b=>by
  unfold Frm.read
  dsimp only
  split;· show (3:Int)≠12;decide
  split;· show (4:Int)≠12;decide
  split;· show (3:Int)≠12;decide
  split;· show (13:Int)≠12;decide
  split
  ·show (0:Int)≠12;decide
  ·show (0:Int)≠12;decide
 split;· exact h1
 split;· exact h2 _
 split
 ·show (4:Int)≠12;decide
 ·show (0:Int)≠12;decide
theorem rot_read_at (ok:M.Ok K) (q:Quiet M) (h:At M s i k) (hx:L.read M pl=(x,0)) (hne:nget M.now (name pl.seg)=some k→i<pl.at_):L.read (M.rot s i y).1 pl=(x,0):=by
 have hq:=q.rot s i y
 have hrd:(M.rot s i y).1.read (name pl.seg) pl.at_ pl.size=M.read (name pl.seg) pl.at_ pl.size:=by
  rw [read_by hq,read_by q]
  have hlt:k<M.files.length:=ok.nowOk.ids _ (nget_mem h.1)
  rw [h.rot]at hq ⊢
  cases hu:nget M.now (name pl.seg) with
  |none=>rw [all_none q hu,all_none hq (show nget (M.setFile k _).now (name pl.seg)=none from hu)]
  |some u=>
   rw [all_some q hu,all_some hq (show nget (M.setFile k _).now (name pl.seg)=some u from hu),file_set hlt]
   by_cases e:u=k
   ·subst e
    have hi:=hne hu
    rw [if_pos rfl,Fil.rot_now]
    simp only [xorAt_len]
    split
    ·rfl
    split
    ·rfl
    split
    ·rfl
    ·rename_i n1 n2 n3
     congr 1
     congr 1
     unfold xorAt
     rw [List.drop_set,if_pos (by have:=h.2.1;omega)]
   ·rw [if_neg e]
 unfold Log.read at hx ⊢
 rw [hrd]
 exact hx
theorem lappend_behind (hg:HG K r E B n L M C) (h0:(Frm.encode x).2=0) (hz:(L.append M x).2.2=0) (h:At M s i k):nget (L.append M x).1.2.now (name (L.append M x).2.1.seg)=some k→i<(L.append M x).2.1.at_:=by
 have hlt:k<M.files.length:=hg.keeps.calm.ok.nowOk.ids _ (nget_mem h.1)
 have q:=hg.keeps.calm.quiet
 cases hf:L.fits (Frm.encode x).1.length with
 |true=>
  rw [Log.append_grow h0 hf]at hz ⊢
  obtain ⟨u,hl⟩:=hg.keeps.log.last (fits_on' hf)
  unfold Log.grow at hz ⊢
  rw [hl]at hz ⊢
  dsimp only at hz ⊢
  by_cases he:(M.append (name u.1) (Frm.encode x).1).2=0
  ·rw [if_pos he]
   dsimp only
   intro hn
   have hm:(M.append (name u.1) (Frm.encode x).1).1.now=M.now:=by
    rcases append_cases q (name u.1) (Frm.encode x).1 with ⟨_,h2⟩|⟨j,_,⟨_,h3⟩|⟨_,h3⟩⟩
    ·rw [h2]
    ·rw [h3]
    ·rw [h3];rfl
   rw [hm]at hn
   obtain ⟨j,hj⟩:=List.mem_iff_getElem?.1 (List.mem_of_getLast? hl)
   have hjl:j<C.length:=by rw [← hg.len];exact (List.getElem?_eq_some_iff.1 hj).1
   have h1:=hg.at_ j _ (List.getElem?_eq_getElem hjl)
   have h2:=hg.file j _ (List.getElem?_eq_getElem hjl)
   rw [hj]at h1
   cases h1
   dsimp only at hn ⊢
   rw [all_some q hn]at h2
   have h3:=congrArg List.length (congrArg Prod.fst h2)
   rw [List.length_append]at h3
   have h4:mag.length=8:=rfl
   have h5:=h.2.2
   dsimp only at h3
   omega
  ·rw [if_neg he]at hz;exact absurd hz he
 |false=>
  rw [Log.append_begin h0 hf]at hz ⊢
  have hS:(L.shut M).1.2.files.length=M.files.length∧Calm (K+1) r (L.shut M).1.2:=by
   have hc:=hg.keeps.shut.1.calm
   refine ⟨?_,hc⟩
   unfold Log.shut
   split
   ·rfl
   ·rename_i u _
    split
    ·have hsy:(M.sync (name u.1)).1.files.length=M.files.length:=by
      cases hu:nget M.now (name u.1) with
      |none=>unfold Med.sync;rw [q.off,hu];rfl
      |some j=>rw [q.sync_eq hu];exact List.length_set ..
     split
     ·exact hsy
     ·exact hsy
    ·rfl
  obtain ⟨s1,s3⟩:=hS
  unfold Log.begin at hz ⊢
  by_cases hsh:(L.shut M).2=0
  rotate_left
  ·rw [if_neg hsh]at hz;exact absurd hz hsh
  rw [if_pos hsh]at hz ⊢
  generalize (L.shut M).1.1=L1 at *
  generalize (L.shut M).1.2=M1 at *
  unfold Log.begin1 at hz ⊢
  by_cases hm:1048576≤L1.next
  ·rw [if_pos hm]at hz;cases hz
  rw [if_neg hm]at hz ⊢
  by_cases hc:(M1.create (name L1.next)).2=0
  rotate_left
  ·rw [if_pos hc]at hz;exact absurd hz hc
  rw [if_neg (fun e=>e hc)]at hz ⊢
  rcases create_cases s3.quiet (name L1.next) with ⟨h1,_⟩|⟨_,hn,_,he⟩
  ·exact absurd hc h1
  have hq2:=s3.quiet.create (name L1.next)
  by_cases ha:((M1.create (name L1.next)).1.append (name L1.next) (mag++(Frm.encode x).1)).2=0
  ·rw [if_pos ha]
   dsimp only
   intro hnn
   exfalso
   have hm2:((M1.create (name L1.next)).1.append (name L1.next) (mag++(Frm.encode x).1)).1.now=(M1.create (name L1.next)).1.now:=by
    rcases append_cases hq2 (name L1.next) (mag++(Frm.encode x).1) with ⟨_,h2⟩|⟨j,_,⟨_,h3⟩|⟨_,h3⟩⟩
    ·rw [h2]
    ·rw [h3]
    ·rw [h3];rfl
   rw [hm2,he]at hnn
   dsimp only at hnn
   rw [nget_put_self s3.ok.nowOk.srt]at hnn
   cases hnn
   omega
  ·rw [if_neg ha]at hz
   exfalso
   split at hz
   ·dsimp only at hz
    split at hz
    ·cases hz
    ·rename_i er;exact er hz
   ·exact ha hz
end
abbrev TT:=Bs→Option (Bs×Nat)
def TT.put (T:TT) (b:Bs):TT:=fun x=>if x=Sha.sum b then some (b,((T x).map (·.2)).getD 0+1) else T x
structure StF (n c:Nat) (L:Log) (M:Med) (C:List (List Ent)) (T:TT) (mR:Bs→Option Rfc):Prop where
 rp:Rp (4 * n) 1048576 0 0 n L M C
 txt:∀ k,objOf C.flatten k=(T k).map fun p=>Lz.wrapB p.1
 cnt:∀ k,mR k=(T k).map fun p=>⟨(p.2:Int),(p.1.length:Int)⟩
 sum:∀ k p,T k=some p→k=Sha.sum p.1∧p.1.length≤150∧p.2≤c
section
variable {n c:Nat}{L:Log}{M:Med}{C:List (List Ent)}{T:TT}{mR:Bs→Option Rfc}{k b:Bs}{p:Bs×Nat}
theorem StF.mono (h:StF n c L M C T mR){n' c':Nat} (h1:n≤n') (h2:c≤c'):StF n' c' L M C T mR:=
 ⟨h.rp.mono oQ (Nat.le_refl _) (Nat.le_refl _) h1,h.txt,h.cnt,fun k p hp=>⟨(h.sum k p hp).1,(h.sum k p hp).2.1,Nat.le_trans (h.sum k p hp).2.2 h2⟩⟩
theorem StF.has (h:StF n c L M C T mR) (k:Bs):(nowOf (rowsC 0 C) k).isSome=(T k).isSome:=by
 rw [(nowOf_obj _ k).1,rowsC_e,h.txt]
 cases T k <;> rfl
theorem StF.got (h:StF n c L M C T mR) (hp:T k=some p):∃ pl,nowOf (rowsC 0 C) k=some pl∧L.read M pl=(⟨0,k,Lz.wrapB p.1⟩,0)∧(-9223372036854775808≤pl.at_∧pl.at_≤9223372036854775807)∧(-9223372036854775808≤pl.size∧pl.size≤9223372036854775807):=by
 have hs:=h.has k
 rw [hp]at hs
 obtain ⟨pl,hpl⟩:=Option.isSome_iff_exists.1 hs
 obtain ⟨d,h1,h2,_,h4,h5,_⟩:=h.rp.got hpl
 rw [h.txt,hp]at h2
 cases h2
 exact ⟨pl,hpl,h1,h4,h5⟩
theorem StF.cntD (h:StF n c L M C T mR) (k:Bs):(mR k).getD ⟨0,0⟩=⟨(((T k).map (·.2)).getD 0:Nat),(((T k).map (·.1.length)).getD 0:Nat)⟩:=by
 rw [h.cnt]
 cases T k <;> rfl
theorem put_get (T:TT) (b:Bs):T.put b (Sha.sum b)=some (b,((T (Sha.sum b)).map (·.2)).getD 0+1):=if_pos rfl
theorem StF.cntPut (h:StF n c L M C T mR) (b:Bs):∀ k,Tab.put mR (Sha.sum b) ⟨((((T (Sha.sum b)).map (·.2)).getD 0:Nat):Int)+1,(b.length:Nat)⟩ k=(T.put b k).map fun p=>⟨(p.2:Int),(p.1.length:Int)⟩:=fun k=>by
 unfold Tab.put TT.put
 by_cases e:k=Sha.sum b
 ·subst e
  rw [if_pos rfl,if_pos rfl]
  show _=some _
  congr 1
 ·rw [if_neg e,if_neg e];exact h.cnt k
theorem StF.sumPut (h:StF n c L M C T mR) (hb:b.length≤150):∀ k p,T.put b k=some p→k=Sha.sum p.1∧p.1.length≤150∧p.2≤c+1:=fun k p hp=>by
 unfold TT.put at hp
 by_cases e:k=Sha.sum b
 ·rw [if_pos e]at hp
  cases hp
  refine ⟨e,hb,?_⟩
  show ((T k).map (·.2)).getD 0+1≤c+1
  cases hT:T k with
  |none=>exact Nat.succ_le_succ (Nat.zero_le _)
  |some q=>exact Nat.succ_le_succ (h.sum k q hT).2.2
 ·rw [if_neg e]at hp
  have:=h.sum k p hp
  exact ⟨this.1,this.2.1,Nat.le_succ_of_le this.2.2⟩
theorem wrapB_le (hb:b.length≤150):(Lz.wrapB b).length≤300:=by have:=Lz.wrapB_len b;omega
theorem wrap_enc (hk:k.length=32) (hb:b.length≤150):(Frm.encode ⟨0,k,Lz.wrapB b⟩).2=0:=good_put hk _ (wrapB_le hb)
theorem StF.put (h:StF n c L M C T mR) (hn:n<400) (hb:b.length≤150) :
  (L.append M ⟨0,Sha.sum b,Lz.wrapB b⟩).2.2=0∧∃ C',StF (n+1) (c+1) (L.append M ⟨0,Sha.sum b,Lz.wrapB b⟩).1.1 (L.append M ⟨0,Sha.sum b,Lz.wrapB b⟩).1.2 C' (T.put b) (Tab.put mR (Sha.sum b) ⟨((((T (Sha.sum b)).map (·.2)).getD 0:Nat):Int)+1,(b.length:Nat)⟩)∧nowOf (rowsC 0 C')=Tab.put (nowOf (rowsC 0 C)) (Sha.sum b) (L.append M ⟨0,Sha.sum b,Lz.wrapB b⟩).2.1:=by
 have hk:=Go.Proofs.YtlimfgdbfadohaaGreatDoor.sha_len b
 have he:=wrap_enc hk hb
 have hu:=h.rp.hg.used
 have hrm:=h.rp.hg.keeps.calm.room
 have hnm:=h.rp.hg.names
 have hd:(⟨0,Sha.sum b,Lz.wrapB b⟩:Ent).data.length≤300:=wrapB_le hb
 obtain ⟨a1,_⟩:=h.rp.hg.append oQ ⟨0,Sha.sum b,Lz.wrapB b⟩ hk hd he (.inr ⟨by omega,by omega⟩)
 refine ⟨a1,?_⟩
 obtain ⟨C',b1,_,b3,row,b4,b5,b6⟩:=h.rp.yes oQ hk hd he a1
 refine ⟨C',⟨b1.mono oQ (Nat.le_refl _) (Nat.le_refl _) (Nat.le_refl _),fun k=>?_,h.cntPut b,h.sumPut hb⟩,?_⟩
 ·rw [b3,objOf_put rfl]
  unfold Tab.put TT.put
  show (if k=Sha.sum b then some (Lz.wrapB b) else objOf C.flatten k)=_
  by_cases e:k=Sha.sum b
  ·rw [if_pos e,if_pos e];rfl
  ·rw [if_neg e,if_neg e];exact h.txt k
 ·rw [b4,nowOf_put (by unfold rtag;rw [b5])]
  have e1:rkey row=Sha.sum b:=by unfold rkey;rw [b5]
  rw [e1,b6]
theorem StF.more (h:StF n c L M C T mR){cc:Nat} (hT:T (Sha.sum b)=some (b,cc)) (hb:b.length≤150):StF n (c+1) L M C (T.put b) (Tab.put mR (Sha.sum b) ⟨((((T (Sha.sum b)).map (·.2)).getD 0:Nat):Int)+1,(b.length:Nat)⟩):=by
 refine ⟨h.rp,fun k=>?_,h.cntPut b,h.sumPut hb⟩
 rw [h.txt]
 unfold TT.put
 by_cases e:k=Sha.sum b
 ·rw [if_pos e,e,hT];rfl
 ·rw [if_neg e]
end
end Go.Seg
namespace Go.Proofs.YtlimfgdbfadohaaGreatDoor
open Go Go.Sl Go.Med Go.MapKept Go.RowKit
def StoS (w0:World) (s m n c:Nat) (T:Seg.TT) (F:List HProp) (w:World):Prop:=
 ∃ (r t p ps pn B BR:Nat) (seg:Int) (d:Bool) (L:Seg.Log) (M:Med) (C:List (List Frm.Ent)) (mR:Frm.Bs→Option Rep.Rfc),Seg.StF n c L M C T mR∧B≤n∧BR≤c∧Sat w0 w (stoPt s r t false::TabMR t mR BR::rpPt r m seg p ps pn d::TabML pn (Rep.nowOf (Rep.rowsC 0 C)) B::LogRep p m L::MedRep m M::F)
section
variable {w0 w:World}{F:List HProp}{s m n c:Nat}{T:Seg.TT}{k b:Frm.Bs}{bv:Value}{q:Frm.Bs×Nat}
theorem StoS.mono (h:StoS w0 s m n c T F w){n' c':Nat} (h1:n≤n') (h2:c≤c'):StoS w0 s m n' c' T F w:=by
 obtain ⟨r,t,p,ps,pn,B,BR,seg,d,L,M,C,mR,hf,hB,hBR,hS⟩:=h
 exact ⟨r,t,p,ps,pn,B,BR,seg,d,L,M,C,mR,hf.mono h1 h2,Nat.le_trans hB h1,Nat.le_trans hBR h2,hS⟩
theorem StoS.push (h:StoS w0 s m n c T F w):∃ G:List HProp,Sat w0 w G∧Sub G F∧(∀ w',Sat w0 w' G→StoS w0 s m n c T F w')∧(∀ (A:HProp) w',Sat w0 w' (A::G)→StoS w0 s m n c T (A::F) w'):=by
 obtain ⟨r,t,p,ps,pn,B,BR,seg,d,L,M,C,mR,hf,hB,hBR,hS⟩:=h
 exact ⟨_,hS,sbD,fun w' hw=>⟨r,t,p,ps,pn,B,BR,seg,d,L,M,C,mR,hf,hB,hBR,hw⟩,fun A w' hw=>⟨r,t,p,ps,pn,B,BR,seg,d,L,M,C,mR,hf,hB,hBR,hw.sb⟩⟩
theorem StoS.one (h:StoS w0 s m n c T F w):∃ P:HProp,Sat w0 w (P::F)∧∀ (X:List HProp) w',Sat w0 w' (P::X)→StoS w0 s m n c T X w':=by
 obtain ⟨r,t,p,ps,pn,B,BR,seg,d,L,M,C,mR,hf,hB,hBR,hS⟩:=h
 refine ⟨stars [stoPt s r t false,TabMR t mR BR,rpPt r m seg p ps pn d,TabML pn (Rep.nowOf (Rep.rowsC 0 C)) B,LogRep p m L,MedRep m M],Sat.join (M:=[stoPt s r t false,TabMR t mR BR,rpPt r m seg p ps pn d,TabML pn (Rep.nowOf (Rep.rowsC 0 C)) B,LogRep p m L,MedRep m M]) hS (Ent.refl _),fun X w' hw=>⟨r,t,p,ps,pn,B,BR,seg,d,L,M,C,mR,hf,hB,hBR,?_⟩⟩
 exact Sat.split (M:=[stoPt s r t false,TabMR t mR BR,rpPt r m seg p ps pn d,TabML pn (Rep.nowOf (Rep.rowsC 0 C)) B,LogRep p m L,MedRep m M]) hw (Ent.refl _)
theorem hasB {r m p ps pn B:Nat}{seg:Int}{d:Bool}{mp:Frm.Bs→Option Seg.Plc}{A3 A4:HProp} (hB:B≤268435000) (hk:k.length=32):HasB w0 (rpPt r m seg p ps pn d) (TabML pn mp B) A3 A4 r k (mp k).isSome:=fun w' R hw=>
 (rphas_c hB hk hw).mono (by rintro e w'' ⟨v,rfl,h1,h2⟩;exact ⟨v,rfl,h1,h2⟩)
theorem getY {r m p ps pn B K:Nat}{seg:Int}{d:Bool}{mp:Frm.Bs→Option Seg.Plc}{L:Seg.Log}{M:Med}{data:Frm.Bs}{pl:Seg.Plc} (hB:B≤268435000) (hk:k.length=32) (hm:mp k=some pl) (hH:Ro w0 F Half) (hL:L.Ok) (hM:M.Ok K) (h1 : -9223372036854775808≤pl.at_∧pl.at_≤9223372036854775807) (h2 : -9223372036854775808≤pl.size∧pl.size≤9223372036854775807) (hd:data.length≤100000) (hr:L.read M pl=(⟨0,k,data⟩,0)):GetY w0 F (rpPt r m seg p ps pn d) (TabML pn mp B) (LogRep p m L) (MedRep m M) r k data:=fun w' R hR hw=>
 rpgetY_c hB hk pl hm (Ro.of_sub hH hR) hL hM h1 h2 data oQ hr hw
theorem getE {r m p ps pn B K:Nat}{seg:Int}{d:Bool}{mp:Frm.Bs→Option Seg.Plc}{L:Seg.Log}{M:Med}{pl:Seg.Plc}{e:Int} (hB:B≤268435000) (hk:k.length=32) (hm:mp k=some pl) (hH:Ro w0 F Half) (hL:L.Ok) (hM:M.Ok K) (h1 : -9223372036854775808≤pl.at_∧pl.at_≤9223372036854775807) (h2 : -9223372036854775808≤pl.size∧pl.size≤9223372036854775807) (he:e≠0) (hr:(L.read M pl).2=e):GetE w0 F (rpPt r m seg p ps pn d) (TabML pn mp B) (LogRep p m L) (MedRep m M) r k e:=fun w' R hR hw=>
 rpgetE_c hB hk pl hm (Ro.of_sub hH hR) hL hM h1 h2 e he hr hw
theorem putY {r m p ps pn B K:Nat}{seg:Int}{d:Bool}{mp:Frm.Bs→Option Seg.Plc}{L L':Seg.Log}{M M':Med}{W:Frm.Bs}{pl:Seg.Plc} (hB:B≤134217000) (hk:k.length=32) (hW:W.length≤100000) (hL:L.Ok) (hM:M.Ok K) (hKK:K≤1000000) (hH:Ro w0 F Half) (hap:L.append M ⟨0,k,W⟩=((L',M'),pl,0)) :
  PutY w0 F (rpPt r m seg p ps pn d) (TabML pn mp B) (LogRep p m L) (MedRep m M) (rpPt r m seg p ps pn true) (TabML pn (Tab.put mp k pl) (B+1)) (LogRep p m L') (MedRep m M') r k W:=fun w' R da dc hR hd hw=>by
 have:=rpput_c hB hk W da dc hd oQ hL hM oQ (Ro.of_sub hH hR) (by rw [hap]) hw
 rw [hap]at this
 exact this
theorem stput_c (hn:n<300) (hc:c<1000) (hb:b.length≤150) (hr:RS w0 F bv b) (hH:Ro w0 F Half) (hSK:Ro w0 F ShaK) (h:StoS w0 s m n c T F w) :
  Calls Tryz.prog 7 #[ptr s,bv] w (Rtn fun v w'=>(v = .tuple #[.agg (bys (Sha.sum b)).toArray,errno 0]∧Sha.sum b≠Frm.zero32∧(T (Sha.sum b)=none∨∃ cc,T (Sha.sum b)=some (b,cc))∧StoS w0 s m (n+1) (c+1) (T.put b) F w')∨(v = .tuple #[.agg (bys Frm.zero32).toArray,errno 19]∧StoS w0 s m n c T F w'∧(Sha.sum b=Frm.zero32∨∃ u cc,T (Sha.sum b)=some (u,cc)∧u≠b))):=by
 obtain ⟨r,t,p,ps,pn,B,BR,seg,d,L,M,C,mR,hf,hB,hBR,hS⟩:=h
 have hk:=sha_len b
 by_cases hz:Sha.sum b=Frm.zero32
 ·refine (sputZ_c oQ (hr.more sbD) hz (Ro.os hSK) hS).mono ?_
  rintro e w' ⟨v,rfl,h1,h2⟩
  exact ⟨v,rfl,.inr ⟨h1,⟨r,t,p,ps,pn,B,BR,seg,d,L,M,C,mR,hf,hB,hBR,h2⟩,.inl hz⟩⟩
 have hok:=hf.rp.hg.keeps.log
 have hmd:=hf.rp.hg.keeps.calm.ok
 have hx:=hf.cntD (Sha.sum b)
 have hcs:((T (Sha.sum b)).map (·.2)).getD 0≤c:=by
  cases hT:T (Sha.sum b) with
  |none=>exact Nat.zero_le _
  |some q=>exact (hf.sum _ q hT).2.2
 obtain ⟨cv,hcv⟩:∃ x,((T (Sha.sum b)).map (·.2)).getD 0=x:=⟨_,rfl⟩
 rw [hcv]at hx hcs
 have hhas:HasB w0 (rpPt r m seg p ps pn d) (TabML pn (Rep.nowOf (Rep.rowsC 0 C)) B) (LogRep p m L) (MedRep m M) r (Sha.sum b) (T (Sha.sum b)).isSome:=by
  have:=hasB (w0:=w0) (r:=r) (m:=m) (p:=p) (ps:=ps) (pn:=pn) (B:=B) (seg:=seg) (d:=d) (mp:=Rep.nowOf (Rep.rowsC 0 C)) (A3:=LogRep p m L) (A4:=MedRep m M) oQ hk
  rwa [hf.has]at this
 cases hT:T (Sha.sum b) with
 |none=>
  obtain ⟨a1,C',a2,a3⟩:=hf.put (b:=b) oQ hb
  rw [hcv]at a2
  rw [hT]at hhas
  have hap:L.append M ⟨0,Sha.sum b,Lz.wrapB b⟩=(((L.append M ⟨0,Sha.sum b,Lz.wrapB b⟩).1.1,(L.append M ⟨0,Sha.sum b,Lz.wrapB b⟩).1.2),(L.append M ⟨0,Sha.sum b,Lz.wrapB b⟩).2.1,0):=Prod.ext rfl (Prod.ext rfl a1)
  have hkp:=skeepP_c (s:=s) (t:=t) (F:=F) hk oQ hr hhas (fun e=>by cases e) (putY oQ hk (by have:=Lz.wrapB_len b;omega) hok hmd oQ hH hap)
  refine (sputOk_c oQ oQ hr hz hx (by show (0:Int)≤(cv:Int);omega) (by show ((cv:Nat):Int)<1000000;omega) hSK hkp hS).mono ?_
  rintro e w' ⟨v,rfl,h1,h2⟩
  exact ⟨v,rfl,.inl ⟨h1,hz,.inl rfl,r,t,p,ps,pn,B+1,BR+1,seg,true,_,_,C',_,a2,by omega,by omega,by rw [a3];exact h2⟩⟩
 |some q=>
  obtain ⟨u,cc⟩:=q
  obtain ⟨pl,g1,g2,g3,g4⟩:=hf.got hT
  obtain ⟨s1,s2,s3⟩:=hf.sum _ _ hT
  have s2:u.length≤150:=s2
  have hgy:=getY (w0:=w0) (F:=F) (r:=r) (m:=m) (p:=p) (ps:=ps) (pn:=pn) (B:=B) (seg:=seg) (d:=d) (data:=Lz.wrapB u) oQ hk g1 hH hok hmd g3 g4 (by have:=Lz.wrapB_len u;omega) g2
  have hsg:=sgetY_c (s:=s) (t:=t) s1 oQ hSK hgy
  rw [hT]at hhas
  have hkp:=skeepY_c hk hr hhas hsg
  by_cases hub:u=b
  ·subst hub
   rw [if_pos rfl]at hkp
   have hmo:=hf.more hT hb
   rw [hcv]at hmo
   refine (sputOk_c oQ oQ hr hz hx (by show (0:Int)≤(cv:Int);omega) (by show ((cv:Nat):Int)<1000000;omega) hSK hkp hS).mono ?_
   rintro e w' ⟨v,rfl,h1,h2⟩
   exact ⟨v,rfl,.inl ⟨h1,hz,.inr ⟨cc,rfl⟩,r,t,p,ps,pn,B,BR+1,seg,d,L,M,C,_,hmo.mono (Nat.le_succ _) (Nat.le_refl _),by omega,by omega,h2⟩⟩
  ·rw [if_neg hub]at hkp
   refine (sputNo_c dCz oQ oQ hr hz hx (by show (0:Int)≤(cv:Int);omega) (by show ((cv:Nat):Int)<1000000;omega) hSK hkp hS).mono ?_
   rintro e w' ⟨v,rfl,h1,h2⟩
   exact ⟨v,rfl,.inr ⟨h1,⟨r,t,p,ps,pn,B,BR,seg,d,L,M,C,mR,hf,hB,hBR,h2⟩,.inr ⟨u,cc,rfl,hub⟩⟩⟩
end
structure D.At (W:World) (d:D):Prop where
 kind:inI d.kind
 name:d.name.size≤9223372036854775807
 to:d.to.size≤9223372036854775807
 n:inI d.n
 m:inI d.m
 b:rdsl 1 d.bv (bys d.b) W
 bc:capOk d.bv
 l:rdsl 1 d.lv (ints d.l) W
 lc:capOk d.lv
 li:∀ z∈d.l,inI z
structure D.Fit (w0:World) (F:List HProp) (d:D):Prop where
 name:d.name.size≤30
 to:d.to.size≤30
 n:inI d.n
 m:inI d.m
 b:d.b.length≤100
 l:Ro w0 F (rdsl 1 d.lv (ints d.l))
 lc:capOk d.lv
 li:∀ z∈d.l,inI z
section
variable {w0 w W:World}{F:List HProp}{m fb nb b r:Nat}{M:Med}{bs:List Nat}{wv v bv dv:Value}{s:ByteArray}{fs:List Fil}{K:Nat}
end
section
variable {w0 w:World}{F:List HProp}{m fb nb b r:Nat}{M:Med}{bs:List Nat}{wv v bv dv:Value}{s:ByteArray}{fs:List Fil}{K:Nat}{f:Fil}
theorem rotF_c (h:Sat w0 w (FilRep b f::F)) (hf:f.Ok K) (hK:K≤1099511627776) (at_:Int) (y:UInt8) :
  Calls Tryz.prog 27 #[ptr b,.int .i64 at_,.int .u8 y.toNat] w
   (Rtn fun v w'=>v = .bool (decide (¬ (at_<0∨(f.now.length:Int)≤at_)))∧Sat w0 w' (FilRep b (if at_<0∨(f.now.length:Int)≤at_ then f else f.rot at_.toNat y)::F)):=by
 by_cases ho:at_<0∨(f.now.length:Int)≤at_
 ·have:=rot_out h hf at_ y ho
  simp only [ho,not_true,decide_false,if_true]
  exact this
 ·obtain ⟨k,rfl⟩:=Int.eq_ofNat_of_zero_le (show 0≤at_ by omega)
  have:=rot_in h hf hK k y oQ
  simp only [ho,not_false_iff,decide_true,if_false]
  exact this
theorem rot_c (hM:M.Ok K) (hK:K≤1099511627776) (h:Sat w0 w (MedRep m M::F)) (s:ByteArray) (at_:Int) (y:UInt8) :
  Calls Tryz.prog 8 #[ptr m,.string s,.int .i64 at_,.int .u8 y.toNat] w (Rtn fun v w'=>v = .bool (M.rot s at_ y).2∧Sat w0 w' (MedRep m (M.rot s at_ y).1::F)):=by
 obtain ⟨bs,fb,nb,wv,hl,hR⟩:=MedRep.open h
 have c2:=hR.cellAt 2 _ rfl
 have hlk:=look_names (s:=s) (hR.pick1)
 cases hn:nget M.now s with
 |none=>
  rw [fptr,hn]at hlk
  simp only at hlk
  have Hfin:Hid (M.rot s at_ y=(M,false)):=by show _=_;simp [Med.rot,hn]
  clear hn
  go_enter Tryz.func8,Tryz.ntmps8
  go_wp2
  go_ret
  exact ⟨.bool false,rfl,by rw [Hfin.out],by rw [Hfin.out];exact h⟩
 |some i=>
  rw [fptr,hn]at hlk
  simp only at hlk
  have hid:i<M.files.length:=hM.nowOk.ids (s,i) (nget_mem hn)
  obtain ⟨G,h1,h2⟩:=raw_file hl hid hR
  obtain ⟨fv,nv,wv',ws,hws,h3⟩:=FilRep.open h1
  have hok:=hM.file i
  have hrd:=Sat.rd (h3.sel 3 [2] rfl rfl)
  have hcl:=clone_c h3 hrd (by have:=hok.now_len;omega)
  have fc0:=h3.cellAt 1 _ rfl
  have Hfin:Hid (M.rot s at_ y=if at_<0∨((M.file i).now.length:Int)≤at_ then (M,false) else (M.setFile i ((M.file i).rot at_.toNat y),true)):=by
   show _=_
   simp only [Med.rot,hn]
  have H1:=uQ h1
  have H2:=uQ h2;have Hok:=uQ hok;have Hws:=uQ hws
  clear hn h1 h2 hok hws hrd
  generalize hq:bs.getD i 0=q at *
  go_enter Tryz.func8,Tryz.ntmps8
  go_wp2_with fail
  refine hcl.mono ?_
  rintro e w1 ⟨v',rfl,hS3,a3,n3,k3,rfl⟩
  have hP:=hS3.pick1
  have f1:=hP.freeAt 1
  have c1:=hP.cellAt 1 _ rfl
  have hP2:=(hP.set 1 (.slice a3 n3 k3)).sel 4 [0,2,1] rfl rfl
  have hF:Sat w0 _ (FilRep q (M.file i)::_):=FilRep.shut (fv:=fv) (nv:= .slice a3 n3 k3) (wv:=wv') (ws:=ws) Hws.out hP2
  have hrot:=rotF_c hF Hok.out hK at_ y
  generalize hB:decide (¬ (at_<0∨((M.file i).now.length:Int)≤at_))=B at hrot
  have HB:=uQ hB;clear hB
  clear hcl fc0 hP hP2 hS3
  go_wp2_with fail
  refine hrot.mono ?_
  rintro e w2 ⟨v,rfl,rfl,hS4⟩
  clear hrot f1 c1
  go_wp2
  go_ret
  refine ⟨.bool B,rfl,?_,?_⟩
  ·rw [Hfin.out,← HB.out]
   by_cases ho:at_<0∨((M.file i).now.length:Int)≤at_
   ·rw [if_pos ho,decide_eq_false (fun hh=>hh ho)]
   ·rw [if_neg ho,decide_eq_true ho]
  ·rw [Hfin.out]
   split
   ·rename_i ho
    rw [if_pos ho]at hS4
    have:=H2.out w2 _ hS4
    have e:M.setFile i (M.file i)=M:=by
     unfold Med.setFile Med.file
     rw [List.getD_eq_getElem?_getD,List.getElem?_eq_getElem hid]
     simp
    rw [e]at this;exact this
   ·rename_i ho
    rw [if_neg ho]at hS4
    exact H2.out w2 _ hS4
end
def Spoilt (M0 M:Med):Prop:=M=M0∨∃ (nm:ByteArray) (i:Int) (y:UInt8) (k:Nat),At M0 nm i k∧M=(M0.rot nm i y).1
def RotS (w0:World) (s m n c:Nat) (T:Seg.TT) (G:Frm.Bs→Prop) (F:List HProp) (w:World):Prop:=
 ∃ (r t p ps pn B BR:Nat) (seg:Int) (d:Bool) (L:Seg.Log) (M0 M:Med) (C:List (List Frm.Ent)) (mR:Frm.Bs→Option Rep.Rfc),Seg.StF n c L M0 C T mR∧B≤n∧BR≤c∧Spoilt M0 M∧(∀ k q pl,G k→T k=some q→Rep.nowOf (Rep.rowsC 0 C) k=some pl→L.read M pl=(⟨0,k,Lz.wrapB q.1⟩,0)) ∧
  Sat w0 w (stoPt s r t false::TabMR t mR BR::rpPt r m seg p ps pn d::TabML pn (Rep.nowOf (Rep.rowsC 0 C)) B::LogRep p m L::MedRep m M::F)
section
variable {w0 w:World}{F:List HProp}{s m n c:Nat}{T:Seg.TT}{G:Frm.Bs→Prop}{k b:Frm.Bs}{bv:Value}{q:Frm.Bs×Nat}{M0 M:Med}
theorem Spoilt.ok {K:Nat} (h:Spoilt M0 M) (ok:M0.Ok K):M.Ok (K+1):=by
 rcases h with rfl|⟨nm,i,y,k,_,rfl⟩
 ·exact ok.mono (Nat.le_succ K)
 ·exact ok.rot nm i y
theorem Spoilt.quiet (h:Spoilt M0 M) (q:Quiet M0):Quiet M:=by
 rcases h with rfl|⟨nm,i,y,k,_,rfl⟩
 ·exact q
 ·exact q.rot nm i y
theorem RotS.one (h:RotS w0 s m n c T G F w):∃ P:HProp,Sat w0 w (P::F)∧∀ (X:List HProp) w',Sat w0 w' (P::X)→RotS w0 s m n c T G X w':=by
 obtain ⟨r,t,p,ps,pn,B,BR,seg,d,L,M0,M,C,mR,hf,hB,hBR,hm,hg,hS⟩:=h
 refine ⟨stars [stoPt s r t false,TabMR t mR BR,rpPt r m seg p ps pn d,TabML pn (Rep.nowOf (Rep.rowsC 0 C)) B,LogRep p m L,MedRep m M],Sat.join (M:=[stoPt s r t false,TabMR t mR BR,rpPt r m seg p ps pn d,TabML pn (Rep.nowOf (Rep.rowsC 0 C)) B,LogRep p m L,MedRep m M]) hS (Ent.refl _),fun X w' hw=>⟨r,t,p,ps,pn,B,BR,seg,d,L,M0,M,C,mR,hf,hB,hBR,hm,hg,?_⟩⟩
 exact Sat.split (M:=[stoPt s r t false,TabMR t mR BR,rpPt r m seg p ps pn d,TabML pn (Rep.nowOf (Rep.rowsC 0 C)) B,LogRep p m L,MedRep m M]) hw (Ent.refl _)
theorem RotS.mono (h:RotS w0 s m n c T G F w){n' c':Nat} (h1:n≤n') (h2:c≤c'):RotS w0 s m n' c' T G F w:=by
 obtain ⟨r,t,p,ps,pn,B,BR,seg,d,L,M0,M,C,mR,hf,hB,hBR,hm,hg,hS⟩:=h
 exact ⟨r,t,p,ps,pn,B,BR,seg,d,L,M0,M,C,mR,hf.mono h1 h2,Nat.le_trans hB h1,Nat.le_trans hBR h2,hm,hg,hS⟩
theorem RotS.drop {A:HProp} (h:RotS w0 s m n c T G (A::F) w):RotS w0 s m n c T G F w:=by
 obtain ⟨r,t,p,ps,pn,B,BR,seg,d,L,M0,M,C,mR,hf,hB,hBR,hm,hg,hS⟩:=h
 exact ⟨r,t,p,ps,pn,B,BR,seg,d,L,M0,M,C,mR,hf,hB,hBR,hm,hg,hS.sb⟩
theorem StoS.rot (hn:n≤300) (h:StoS w0 s m n c T F w):∃ (M:Med) (X:List HProp),M.Ok (4 * n)∧Sat w0 w (MedRep m M::X)∧∀ (nm:ByteArray) (i:Int) (y:UInt8) (w':World),Sat w0 w' (MedRep m (M.rot nm i y).1::X)→RotS w0 s m n c T (fun _=>False) F w':=by
 obtain ⟨r,t,p,ps,pn,B,BR,seg,d,L,M,C,mR,hf,hB,hBR,hS⟩:=h
 refine ⟨M,stoPt s r t false::TabMR t mR BR::rpPt r m seg p ps pn d::TabML pn (Rep.nowOf (Rep.rowsC 0 C)) B::LogRep p m L::F,hf.rp.hg.keeps.calm.ok,hS.sb,fun nm i y w' hw=>?_⟩
 refine ⟨r,t,p,ps,pn,B,BR,seg,d,L,M,_,C,mR,hf,hB,hBR,?_,(fun k q pl e=>e.elim),hw.sb⟩
 by_cases he:∃ k,At M nm i k
 ·obtain ⟨k,hk⟩:=he
  exact .inr ⟨nm,i,y,k,hk,rfl⟩
 ·exact .inl (Go.Med.rot_none (y:=y) he)
theorem spoilt_read {K r:Nat}{L:Seg.Log}{x:Frm.Ent}{pl:Seg.Plc} (hc:Seg.Calm K r M0) (h:Spoilt M0 M) (hx:L.read M0 pl=(x,0)):L.read M pl=(x,0)∨(L.read M pl).2≠0:=by
 rcases h with rfl|⟨nm,i,y,k,_,rfl⟩
 ·exact .inl hx
 ·exact Seg.rot_read hc.ok hc.quiet hc hx nm i y
theorem rotget_c (hn:n≤300) (hk:T k=some q) (hH:Ro w0 F Half) (hSK:Ro w0 F ShaK) (h:RotS w0 s m n c T G F w) :
  Calls Tryz.prog 11 #[ptr s,.agg (bys k).toArray] w (Rtn fun v w'=>(∃ (a:Option Addr) (l cp:Nat),v = .tuple #[.slice a l cp,errno 0]∧RotS w0 s m n c T G (bsl (.slice a l cp) q.1::F) w')∨(∃ e:Int,e≠0∧¬ G k∧v = .tuple #[.slice none 0 0,errno e]∧RotS w0 s m n c T G F w')):=by
 obtain ⟨r,t,p,ps,pn,B,BR,seg,d,L,M0,M,C,mR,hf,hB,hBR,hm,hg,hS⟩:=h
 obtain ⟨u,cc⟩:=q
 obtain ⟨pl,g1,g2,g3,g4⟩:=hf.got hk
 obtain ⟨s1,s2,s3⟩:=hf.sum _ _ hk
 have s2:u.length≤150:=s2
 have hkl:k.length=32:=by rw [s1];exact sha_len u
 have hok:=hf.rp.hg.keeps.log
 have hmd:=hm.ok hf.rp.hg.keeps.calm.ok
 rcases spoilt_read hf.rp.hg.keeps.calm hm g2 with h5|h5
 ·have hgy:=getY (w0:=w0) (F:=TabMR t mR BR::F) (r:=r) (m:=m) (p:=p) (ps:=ps) (pn:=pn) (B:=B) (seg:=seg) (d:=d) (data:=Lz.wrapB u) oQ hkl g1 (Ro.os hH) hok hmd g3 g4 (by have:=Lz.wrapB_len u;omega) h5
  have hsg:=sgetY_c (s:=s) (t:=t) s1 oQ (Ro.os hSK) hgy
  refine (hsg w _ sub_refl (hS.sb)).mono ?_
  rintro e w' ⟨v,rfl,a,l,cp,rfl,h6⟩
  exact ⟨_,rfl,.inl ⟨a,l,cp,rfl,r,t,p,ps,pn,B,BR,seg,d,L,M0,M,C,mR,hf,hB,hBR,hm,hg,h6.sb⟩⟩
 ·have hge:=getE (w0:=w0) (F:=TabMR t mR BR::F) (r:=r) (m:=m) (p:=p) (ps:=ps) (pn:=pn) (B:=B) (seg:=seg) (d:=d) oQ hkl g1 (Ro.os hH) hok hmd g3 g4 h5 rfl
  have hsg:=sgetE_c (s:=s) (t:=t) h5 hkl hge
  refine (hsg w _ sub_refl (hS.sb)).mono ?_
  rintro e w' ⟨v,rfl,rfl,h6⟩
  refine ⟨_,rfl,.inr ⟨_,h5,fun hG=>?_,rfl,r,t,p,ps,pn,B,BR,seg,d,L,M0,M,C,mR,hf,hB,hBR,hm,hg,h6.sb⟩⟩
  rw [hg k _ pl hG hk g1]at h5
  exact h5 rfl
theorem rotput_c {cc:Nat} (hn:n<300) (hc:c<1000) (hz:Sha.sum b≠Frm.zero32) (hT:T (Sha.sum b)=some (b,cc)) (hr:RS w0 F bv b) (hH:Ro w0 F Half) (hSK:Ro w0 F ShaK) (h:RotS w0 s m n c T G F w) :
  Calls Tryz.prog 7 #[ptr s,bv] w (Rtn fun v w'=>v = .tuple #[.agg (bys (Sha.sum b)).toArray,errno 0]∧RotS w0 s m (n+1) (c+1) (T.put b) (fun k=>k=Sha.sum b) F w'):=by
 obtain ⟨r,t,p,ps,pn,B,BR,seg,d,L,M0,M,C,mR,hf,hB,hBR,hm,hg,hS⟩:=h
 have hkl:=sha_len b
 obtain ⟨pl,g1,g2,g3,g4⟩:=hf.got hT
 obtain ⟨_,s2,s3⟩:=hf.sum _ _ hT
 have s2:b.length≤150:=s2
 have s3:cc≤c:=s3
 have hok:=hf.rp.hg.keeps.log
 have hmd:=hm.ok hf.rp.hg.keeps.calm.ok
 have hx:=hf.cntD (Sha.sum b)
 have hcv:((T (Sha.sum b)).map (·.2)).getD 0=cc:=by rw [hT];rfl
 rw [hcv]at hx
 have hhas:HasB w0 (rpPt r m seg p ps pn d) (TabML pn (Rep.nowOf (Rep.rowsC 0 C)) B) (LogRep p m L) (MedRep m M) r (Sha.sum b) true:=by
  have:=hasB (w0:=w0) (r:=r) (m:=m) (p:=p) (ps:=ps) (pn:=pn) (B:=B) (seg:=seg) (d:=d) (mp:=Rep.nowOf (Rep.rowsC 0 C)) (A3:=LogRep p m L) (A4:=MedRep m M) oQ hkl
  rwa [hf.has,hT]at this
 rcases spoilt_read hf.rp.hg.keeps.calm hm g2 with h5|h5
 ·have hgy:=getY (w0:=w0) (F:=F) (r:=r) (m:=m) (p:=p) (ps:=ps) (pn:=pn) (B:=B) (seg:=seg) (d:=d) (data:=Lz.wrapB b) oQ hkl g1 hH hok hmd g3 g4 (by have:=Lz.wrapB_len b;omega) h5
  have hkp:=skeepY_c hkl hr hhas (sgetY_c (s:=s) (t:=t) rfl oQ hSK hgy)
  rw [if_pos rfl]at hkp
  have hmo:=hf.more hT s2
  rw [hcv]at hmo
  refine (sputOk_c oQ oQ hr hz hx (by show (0:Int)≤(cc:Int);omega) (by show ((cc:Nat):Int)<1000000;omega) hSK hkp hS).mono ?_
  rintro e w' ⟨v,rfl,h1,h2⟩
  refine ⟨v,rfl,h1,r,t,p,ps,pn,B,BR+1,seg,d,L,M0,M,C,_,hmo.mono (Nat.le_succ _) (Nat.le_refl _),by omega,by omega,hm,fun k q pl' e hq hp=>?_,h2⟩
  subst e
  rw [Seg.put_get]at hq
  cases hq
  rw [g1]at hp
  cases hp
  exact h5
 ·have hge:=getE (w0:=w0) (F:=F) (r:=r) (m:=m) (p:=p) (ps:=ps) (pn:=pn) (B:=B) (seg:=seg) (d:=d) oQ hkl g1 hH hok hmd g3 g4 h5 rfl
  obtain ⟨a1,C',a2,a3⟩:=hf.put (b:=b) oQ s2
  rw [hcv]at a2
  have he:=Seg.wrap_enc hkl s2
  obtain ⟨M',hm',hap,hrd⟩:∃ M',Spoilt (L.append M0 ⟨0,Sha.sum b,Lz.wrapB b⟩).1.2 M'∧L.append M ⟨0,Sha.sum b,Lz.wrapB b⟩=(((L.append M0 ⟨0,Sha.sum b,Lz.wrapB b⟩).1.1,M'),(L.append M0 ⟨0,Sha.sum b,Lz.wrapB b⟩).2.1,0)∧(L.append M0 ⟨0,Sha.sum b,Lz.wrapB b⟩).1.1.read M' (L.append M0 ⟨0,Sha.sum b,Lz.wrapB b⟩).2.1=(⟨0,Sha.sum b,Lz.wrapB b⟩,0):=by
   have hgg:=hf.rp.hg
   have hu:=hgg.used
   have hrm:=hgg.keeps.calm.room
   have hnm:=hgg.names
   obtain ⟨_,_,_,hg2,hrd,_⟩:=hgg.append oQ ⟨0,Sha.sum b,Lz.wrapB b⟩ hkl (Seg.wrapB_le s2) he (.inl a1)
   rcases hm with rfl|⟨nm,i,y,k,hA,rfl⟩
   ·exact ⟨_,.inl rfl,Prod.ext rfl (Prod.ext rfl a1),hrd⟩
   ·obtain ⟨e1,e2⟩:=Seg.rot_lappend (y:=y) hgg.keeps.calm hA he a1 hgg.keeps.log.on
    exact ⟨_,.inr ⟨nm,i,y,k,e2,rfl⟩,e1,Seg.rot_read_at hg2.keeps.calm.ok hg2.keeps.calm.quiet e2 hrd (Seg.lappend_behind hgg he a1 hA)⟩
  have hkp:=skeepP_c (s:=s) (t:=t) (F:=F) hkl oQ hr hhas (fun _=>⟨_,h5,Seg.lread_live (hm.quiet hf.rp.hg.keeps.calm.quiet) pl,sgetE_c h5 hkl hge⟩) (putY oQ hkl (by have:=Lz.wrapB_len b;omega) hok hmd oQ hH hap)
  refine (sputOk_c oQ oQ hr hz hx (by show (0:Int)≤(cc:Int);omega) (by show ((cc:Nat):Int)<1000000;omega) hSK hkp hS).mono ?_
  rintro e w' ⟨v,rfl,h1,h2⟩
  refine ⟨v,rfl,h1,r,t,p,ps,pn,B+1,BR+1,seg,true,_,_,M',C',_,a2,by omega,by omega,hm',fun k q pl' e hq hp=>?_,by rw [a3];exact h2⟩
  subst e
  rw [Seg.put_get]at hq
  cases hq
  rw [a3]at hp
  unfold Tab.put at hp
  rw [if_pos rfl]at hp
  cases hp
  exact hrd
end
def abcT:Frm.Bs:=[97,98,99]
theorem abc_sum:Sha.sum abcT≠Frm.zero32:=by decide +kernel
def abcC:Array Value:=#[.int .u8 97,.int .u8 98,.int .u8 99]
theorem run_fld1 (w:World):(Instr.field 60 (.agg (renc ⟨1,3⟩).toArray) 0).run Tryz.prog w = .ok (.int .i64 1) w:=by kernel_rfl
theorem run_abc (w:World):(Instr.buildSlice 27 3 #[(0,.int .u8 97),(1,.int .u8 98),(2,.int .u8 99)]).run Tryz.prog w = .ok (.slice (some ⟨w.heap.size,0,none⟩) 3 3) (w.alloc (.cells abcC 5)):=by kernel_rfl
section
variable {w0 w:World}{L:List HProp}{ops:Array Oper}{rest:List Oper}{a:Act}{Q:Exit→Act→World→Prop}{dst:Option Tmp}{t ty:TypeId}{pos:String}{after:Array Edge}
theorem run_mark {b n c T:Nat}{cs:Array Value} (h:Sat w0 w (pt b (.cells cs T (0,0))::L)):(convert 27 27 (.slice (some ⟨b,0,none⟩) n c)).run Tryz.prog w = .ok (.slice (some ⟨b,0,none⟩) n c) (w.freeze ⟨b,cs.size,none⟩ 1):=by
 have hsh:w.shape? b=some (T,cs.size):=by unfold World.shape?;rw [h.at]
 simp [convert,run_underlying Tryz.underlying27,run_underlying Tryz.underlying5,markStringish,hsh]
theorem sat_mark {b T:Nat}{cs:Array Value} (h:Sat w0 w (pt b (.cells cs T (0,0))::L)):Sat w0 (w.freeze ⟨b,cs.size,none⟩ 1) (pt b (.cells cs T (cs.size,cs.size+1))::L):=by
 have hb:=h.at
 refine h.turn (by unfold World.freeze;rw [if_neg dCz]) (by unfold World.freeze;rw [if_neg dCz]) (by unfold World.freeze;rw [if_neg dCz]) (by unfold World.freeze;rw [if_neg dCz];simp) ?_ (fun i hi _=>?_)
 ·unfold World.freeze
  rw [if_neg dCz]
  simp only [Array.getElem?_modify,if_true,hb]
  simp
 ·unfold World.freeze
  rw [if_neg dCz]
  simp only [Array.getElem?_modify]
  rw [if_neg (Ne.symm hi)]
theorem RS.of_abl2 {v:Value}{l:Frm.Bs}{G:List HProp} (h:Sat w0 w (abl v l::L)):RS w0 (abl v l::G) v l:=by
 refine ⟨fun w hw=>asl_rd hw,?_⟩
 rcases asl_cases h with h|⟨b,n,cap,cs,m,rfl,hl,hn,hc,hcm,htk,hmk,hp⟩
 ·obtain ⟨a,n,c,e,h1,h2,h3⟩:=bsl_cap' h
  exact ⟨a,n,c,e,h1,h2⟩
 ·exact ⟨_,n,cap,rfl,hn,hcm⟩
theorem wp_mark {K:Act→World→Prop}{g:Option (Nat×Bool)}{b:Nat}{x:Operand} (hx:a.eval x = .slice (some ⟨b,0,none⟩) 3 3) (hs:Sat w0 w (pt b (.cells abcC 5 (0,0))::L)) (hK:∀ w',Sat w0 w' (abl (.slice (some ⟨b,0,none⟩) 3 3) abcT::L)→K (a.put dst (.slice (some ⟨b,0,none⟩) 3 3)) w') :
  Oper.wp Tryz.prog ⟨dst,.convert 27 27 x,t,pos,after,g⟩ a w K Q:=by
 unfold Oper.wp execOp
 simp only [hx,Sem.run_bind,run_mark hs,Result.andThen_ok,Sem.run_pure]
 exact hK _ (asl_of_pt (sat_mark hs) rFz (Nat.le_refl _) dCz dCz rFz (Nat.le_refl _))
theorem at_cvt {P:Program}{t1 t2:TypeId}{x:Operand} (h:Stop (wpList P ops Q (⟨dst,.convert t1 t2 x,t,pos,after,none⟩::rest) a w)):wpList P ops Q (⟨dst,.convert t1 t2 x,t,pos,after,none⟩::rest) a w:=h.out
set_option maxRecDepth 20000 in
theorem wl_mark {b:Nat}{x:Operand} (hx:a.eval x = .slice (some ⟨b,0,none⟩) 3 3) (hs:Sat w0 w (pt b (.cells abcC 5 (0,0))::L)) (hK:∀ w',Sat w0 w' (abl (.slice (some ⟨b,0,none⟩) 3 3) abcT::L)→wpList Tryz.prog ops Q rest (a.put dst (.slice (some ⟨b,0,none⟩) 3 3)) w') :
  wpList Tryz.prog ops Q (⟨dst,.convert 27 27 x,t,pos,after,none⟩::rest) a w:=
 wpList_plain rfl fun _ hK'=>wp_mark hx hs fun w' h=>hK' _ _ (hK w' h)
theorem at_slc {P:Program}{n:Nat}{xs:Array (Nat×Operand)} (h:Stop (wpList P ops Q (⟨dst,.buildSlice ty n xs,t,pos,after,none⟩::rest) a w)):wpList P ops Q (⟨dst,.buildSlice ty n xs,t,pos,after,none⟩::rest) a w:=h.out
theorem yg_fld {P:Program}{x:Operand}{v vx:Value}{fl:Nat}{g:Option (Nat×Bool)} (hw:Region.wanted ⟨dst,.field ty x fl,t,pos,after,g⟩ (yielded ops a.tmps)=true) (hx:a.eval x=vx) (hr:∀ w,(Instr.field ty vx fl).run P w = .ok v w):Yields P ops ⟨dst,.field ty x fl,t,pos,after,g⟩ v a:=
 .inl ⟨hw,fun w=>by simp only [execOp,hx,Sem.run_bind,hr,Result.andThen_ok,Sem.run_pure]⟩
theorem wp_abc {K:Act→World→Prop}{g:Option (Nat×Bool)} (hs:Sat w0 w L) (hK:∀ b w',Sat w0 w' (pt b (.cells abcC 5 (0,0))::L)→K (a.put dst (.slice (some ⟨b,0,none⟩) 3 3)) w') :
  Oper.wp Tryz.prog ⟨dst,.buildSlice 27 3 #[(0,.const (.int .u8 97)),(1,.const (.int .u8 98)),(2,.const (.int .u8 99))],t,pos,after,g⟩ a w K Q:=by
 have hS:=hs.alloc (.cells abcC 5)
 unfold Oper.wp execOp
 simp only [List.map_toArray,List.map_cons,List.map_nil,Sem.run_bind]
 have:=run_abc w
 rw [show (Instr.buildSlice 27 3 #[(0,a.eval (.const (.int .u8 97))),(1,a.eval (.const (.int .u8 98))),(2,a.eval (.const (.int .u8 99)))]).run Tryz.prog w=_ from this]
 simp only [Result.andThen_ok,Sem.run_pure]
 exact hK _ _ hS
set_option maxRecDepth 20000 in
theorem wl_abc (hs:Sat w0 w L) (hK:∀ b w',Sat w0 w' (pt b (.cells abcC 5 (0,0))::L)→wpList Tryz.prog ops Q rest (a.put dst (.slice (some ⟨b,0,none⟩) 3 3)) w') :
  wpList Tryz.prog ops Q (⟨dst,.buildSlice 27 3 #[(0,.const (.int .u8 97)),(1,.const (.int .u8 98)),(2,.const (.int .u8 99))],t,pos,after,none⟩::rest) a w:=
 wpList_plain rfl fun _ hK'=>wp_abc hs fun b w' h=>hK' _ _ (hK b w' h)
end
section
variable {w0 w:World}{F:List HProp}{s m n c:Nat}{T:Seg.TT}{k:Frm.Bs}
theorem sto_open (z:Int) (hH:Ro w0 F Half) (h:Sat w0 w F):Calls Tryz.prog 5 #[.int .i64 z] w (Rtn fun v w'=>∃ s m,v = .tuple #[ptr s,ptr m,.bool true]∧StoS w0 s m 0 0 (fun _=>none) F w'):=by
 refine (opened22_c z hH h).mono ?_
 rintro e w' ⟨v,rfl,s,t,r,m,p,ps,pi,pn,uv,limit,M,rfl,_,_,_,rfl,hR,hS⟩
 have e:(fun _=>none:Frm.Bs→Option Seg.Plc)=Rep.nowOf (Rep.rowsC 0 []):=funext fun k=>rfl
 have hS:Sat w0 w' (stoPt s r t false::TabMR t (fun _=>none) 0::rpPt r m limit p ps pn false::TabML pn (fun _=>none) 0::LogRep p m ⟨limit,[],false,0⟩::MedRep m (Med.new 1048576)::F):=hS.sb
 rw [e]at hS
 exact ⟨_,rfl,s,m,rfl,r,t,p,ps,pn,0,0,limit,false,_,_,[],fun _=>none,⟨hR,fun k=>rfl,fun k=>rfl,fun k p hp=>by cases hp⟩,Nat.le_refl _,Nat.le_refl _,hS⟩
theorem stcount_c (hc:c≤1000) (hk:k.length=32) (h:StoS w0 s m n c T F w):Calls Tryz.prog 34 #[ptr s,.agg (bys k).toArray] w (Rtn fun v w'=>v = .agg (renc ⟨(((T k).map (·.2)).getD 0:Nat),(((T k).map (·.1.length)).getD 0:Nat)⟩).toArray∧StoS w0 s m n c T F w'):=by
 obtain ⟨r,t,p,ps,pn,B,BR,seg,d,L,M,C,mR,hf,hB,hBR,hS⟩:=h
 have hx:=hf.cntD k
 refine (scount_c (k:=k) oQ hk hS).mono ?_
 rintro e w' ⟨v,rfl,rfl,h2⟩
 rw [hx]
 exact ⟨_,rfl,rfl,r,t,p,ps,pn,B,BR,seg,d,L,M,C,mR,hf,hB,hBR,h2⟩
set_option maxRecDepth 20000 in
theorem lives22_c (hH:Ro w0 F Half) (hSK:Ro w0 F ShaK) (h:Sat w0 w F) :
  Calls Tryz.prog 13 #[] w (Rtn fun v w'=>v = .bool true∧Sat w0 w' F):=by
 have hop:=sto_open 500 hH h
 have HH:=uQ hH;have HSK:=uQ hSK
 clear h hH hSK
 go_enter Tryz.func13,Tryz.ntmps13
 go_wp2_with fail
 refine hop.mono ?_
 rintro ee w1 ⟨v,rfl,s,m,rfl,hst⟩
 clear hop
 obtain ⟨G,h1,hGs,hG1,hG2⟩:=hst.push
 go_wp2_with (with_reducible apply at_slc)
 refine ⟨wl_abc h1 ?_⟩
 intro b1 w2 h2
 clear h1
 go_wp2_with (with_reducible apply at_cvt)
 refine ⟨wl_mark rFz h2 ?_⟩
 intro w3 h3
 clear h2
 have hsum:=abc_sum
 have hpt:=stput_c (b:=abcT) dCz dCz dCz (RS.of_abl2 h3) (Ro.of_sub HH.out sub_drop1) (Ro.of_sub HSK.out sub_drop1) (hG2 _ _ h3)
 have hkl:=sha_len abcT
 have Hsha:=uQ (fun (w':World) (R:List HProp) (bv:Value) (hs:RS w0 R bv abcT) (hk:Ro w0 R ShaK) (hw:Sat w0 w' R)=>shaSum_c dCz hs hk hw)
 have hTT:Seg.TT.put (fun _=>none) abcT (Sha.sum abcT)=some (abcT,1):=Seg.put_get _ _
 have hTT:=uQ hTT
 generalize Seg.TT.put (fun _=>none) abcT=T2 at *
 generalize Sha.sum abcT=k at *
 have Hks:=uQ (show (bys k).length=32 by rw [bys_len,hkl])
 have Hsz:=uQ (show (bys k).toArray.size=32 by rw [List.size_toArray,bys_len,hkl])
 have Hon:=uQ (show (bys k).toArray.toList.all (·.oneCell')=true by rw [List.all_eq_true];exact bys_one _)
 have hbin:∀ x y w,((do eqGuard .eql 30 x y (.agg (bys k).toArray) (.agg (bys k).toArray);binOp .eql 30 (.agg (bys k).toArray) (.agg (bys k).toArray)):Sem Value).run Tryz.prog w = .ok (.bool true) w:=fun x y w=>by rw [eqG_key x y _ _ hkl hkl,decide_eq_true rfl]
 have Hkl:=uQ hkl;have Hne:=uQ hsum
 clear hkl hsum h3 hst hG1 hG2 hGs
 go_wp2_with fail
 refine hpt.mono ?_
 rintro ee w4 ⟨v,rfl,⟨rfl,_,_,hs4⟩|⟨rfl,hs4,hc⟩⟩
 rotate_left
 focus
  exfalso
  rcases hc with hc|⟨u,cc,hc,_⟩
  ·exact Hne.out hc
  ·cases hc
 clear hpt
 obtain ⟨G,h4,hGs,hG1,hG2⟩:=hs4.push
 go_wp2_with (with_reducible apply at_alloc)
 refine ⟨wl_alloc zID h4 rfl ?_⟩
 intro b4 w5 h5
 clear h4
 go_wp2_with (with_reducible apply at_store)
 refine ⟨wl_storeA (bys k).toArray h5 rFz rFz (Hsz.out.trans rFz) upd0 (by rw [Hsz.out];kernel_rfl) Hon.out ?_⟩
 intro w6 h6
 clear h5
 go_wp2_with fail
 have h7:=h6.drew
 have hG:World.rangeAt _ b4 0 (bys k):=fun j v hj=>h7.cellP pick0 (0+j) (by simpa using hj)
 clear h6
 refine wpL_begin [12,13,14,15,16] (fun w'=>w'.rangeAt b4 0 (bys k)) kRz ?_
 refine rP 0 ?_ (y:=mvQ)
 refine rP 1 ?_ (y:=bnQ)
 refine rP 2 ?_ (y:=mvQ)
 refine rg_take 3 evD kRz i3z (tg_loadN (b:=b4) (o:=0) (bys k) rFz rFz Tryz.underlying30 rfl (by rw [Hks.out];kernel_rfl) (fun w hw=>hw)) aQ gQ ?_
 clear hG
 refine rg_eff 4 evD kRz (fun K hK=>?_)
 refine eg_of rFz (wp_abc h7 fun b5 w8 h8=>?_)
 refine hK _ _ (.inr (.inl (fun j v hj=>h8.cellP pick1 (0+j) (by simpa using hj)))) ?_
 clear hK h7
 refine rg_eff 5 evD kRz (fun K hK=>?_)
 refine eg_of rFz (wp_mark rFz h8 fun w9 h9=>?_)
 refine hK _ _ (.inr (.inl (fun j v hj=>h9.cellP pick1 (0+j) (by simpa using hj)))) ?_
 clear hK h8
 have hro:Ro w0 (abl (.slice (some ⟨b5,0,none⟩) 3 3) abcT::pt b4 (.cells (bys k).toArray 30 (0,0))::G) ShaK:=fun w' hw=>HSK.out w' (hw.drop.drop.sub hGs).drop
 refine rg_eff 6 evD kRz (fun K hK=>?_)
 refine eg_call [.slice (some ⟨b5,0,none⟩) 3 3] rFz kRz rFz ?_
 refine (Hsha.out _ _ _ (RS.of_abl2 h9) hro h9).mono ?_
 rintro ee w10 ⟨v,rfl,rfl,h10⟩
 have hG:World.rangeAt _ b4 0 (bys k):=fun j v hj=>h10.cellP pick1 (0+j) (by simpa using hj)
 refine hK _ _ (.inr (.inl hG)) ?_
 clear hK h9
 refine rP 7 ?_ (y:=(yg_bin rFz evD evD (hbin _ _)))
 refine rP 8 ?_ (y:=(yg_pick rFz evD evD))
 refine rP 9 ?_ (y:=mvQ)
 refine rP 10 ?_ (y:=(yg_move rFz evD))
 refine rg_take 11 evD kRz i3z (tg_loadN (b:=b4) (o:=0) (bys k) rFz rFz Tryz.underlying30 rfl (by rw [Hks.out];kernel_rfl) (fun w hw=>hw)) aQ gQ ?_
 clear hG
 refine rg_eff 12 evD kRz (fun K hK=>?_)
 refine eg_call [ptr s,.agg (bys k).toArray] rFz kRz rFz ?_
 have hct:=stcount_c (k:=k) dCz Hkl.out (hG1 _ h10.drop.drop)
 rw [hTT.out]at hct
 have hct:Calls _ _ _ _ (Rtn fun v w'=>v = .agg (renc ⟨1,3⟩).toArray∧StoS w0 s m (0+1) (0+1) T2 _ w'):=hct
 refine hct.mono ?_
 rintro ee w11 ⟨v,rfl,rfl,h11⟩
 refine hK _ _ (.inl rfl) ?_
 clear hK h10 hct
 refine rP 13 ?_ (y:=(yg_fld rFz evD run_fld1))
 refine rP 14 ?_ (y:=(yg_bin rFz evD evD rnD))
 refine rP 15 ?_ (y:=(yg_pick rFz evD evD))
 refine rP 16 ?_ (y:=asQ)
 refine wpL_done kRz ?_
 clear hbin
 obtain ⟨_,_,_,_,_,_,_,_,_,_,_,_,_,_,_,_,hF⟩:=h11
 have Hsh:=uQ (hF.sb:Sat w0 w11 F)
 clear hF
 go_wp2_with fail
 go_ret
 exact ⟨_,rfl,rfl,Hsh.out⟩
end
end Go.Proofs.YtlimfgdbfadohaaGreatDoor
namespace Go.Sha
theorem blocks_succ {n:Nat}{s:St}{b:Bs} (h:64≤b.length):blocks (n+1) s b=blocks n (take s (b.take 64)) (b.drop 64):=by
 show (if b.length<64 then (s,b) else blocks n (take s (b.take 64)) (b.drop 64))=_
 rw [if_neg oQ]
theorem blocks_add:∀ (k m:Nat) (s:St) (u v:Bs),u.length=64 * k→blocks (k+m) s (u++v)=blocks m (blocks k s u).1 v
 |0,m,s,u,v,h=>by
  have:u=[]:=List.length_eq_zero_iff.1 oQ
  subst this
  rw [Nat.zero_add];rfl
 |k+1,m,s,u,v,h=>by
  rw [show k+1+m=(k+m)+1 by omega]
  rw [blocks_succ (by rw [List.length_append];omega),blocks_succ oQ,List.take_append_of_le_length oQ,List.drop_append_of_le_length oQ]
  exact blocks_add k m _ (u.drop 64) v (by rw [List.length_drop];omega)
theorem blocks_rest:∀ (k:Nat) (s:St) (b:Bs),b.length / 64=k→(blocks k s b).2=b.drop (64 * k)∧(blocks k s b).1=(blocks k s (b.take (64 * k))).1
 |0,s,b,h=>⟨by simp [blocks],rfl⟩
 |k+1,s,b,h=>by
  have h1:=blocks_rest k (take s (b.take 64)) (b.drop 64) (by rw [List.length_drop];omega)
  rw [blocks_succ oQ,blocks_succ (by rw [List.length_take];omega),h1.1,h1.2,List.drop_drop,List.take_take,Nat.min_eq_left oQ,List.drop_take]
  exact ⟨by congr 1;omega,by congr 3⟩
def padR (b:Bs):Bs:=b++[128]++List.replicate ((119 - b.length%64)%64) 0++bigL (8 * b.length) 8
theorem padR_len (b:Bs):(padR b).length=64 * ((padR b).length / 64):=by
 have:(bigL (8 * b.length) 8).length=8:=by unfold bigL;rw [List.length_reverse,Frm.le_len]
 unfold padR
 simp only [List.length_append,List.length_replicate,List.length_singleton,this]
 omega
theorem sum_ref (b:Bs):sum b=((blocks ((padR b).length / 64) begin (padR b)).1.l).flatMap fun w=>bigL w 4:=by
 have h1:=blocks_rest (b.length / 64) begin b rfl
 unfold sum
 dsimp only
 rw [h1.1,h1.2]
 have hb:(b.take (64 * (b.length / 64))).length=64 * (b.length / 64):=by rw [List.length_take];omega
 have hr:(b.drop (64 * (b.length / 64))).length=b.length%64:=by rw [List.length_drop];omega
 have he:padR b=b.take (64 * (b.length / 64))++(pad (b.drop (64 * (b.length / 64)))++bigL (8 * b.length) 8):=by
  unfold padR pad
  rw [hr,Nat.mod_mod]
  conv=>lhs;rw [← List.take_append_drop (64 * (b.length / 64)) b]
  simp only [List.append_assoc,List.length_append]
  congr 7
  all_goals rw [← List.length_append,List.take_append_drop]
 have hl:=congrArg List.length he
 rw [List.length_append,hb]at hl
 have hk:=blocks_add (b.length / 64) ((pad (b.drop (64 * (b.length / 64)))++bigL (8 * b.length) 8).length / 64) begin (b.take (64 * (b.length / 64))) (pad (b.drop (64 * (b.length / 64)))++bigL (8 * b.length) 8) hb
 rw [← he]at hk
 rw [show (padR b).length / 64=b.length / 64+(pad (b.drop (64 * (b.length / 64)))++bigL (8 * b.length) 8).length / 64 by omega,hk]
theorem ch_eq (e f g:Nat) (he:e<W):(e &&& f) ||| ((e ^^^ 4294967295) &&& g)=(e &&& f) ^^^ ((W - 1 - e) &&& g):=by
 have hx:W - 1 - e=e ^^^ 4294967295:=by
  apply Nat.eq_of_testBit_eq
  intro i
  have:=Nat.testBit_two_pow_sub_succ (n:=32) (x:=e) (by exact he) i
  rw [show W - 1 - e=2^32 - (e+1) by show 4294967296 - 1 - e=4294967296 - (e+1);omega,this,Nat.testBit_xor,show (4294967295:Nat)=2^32 - 1 from rfl,Nat.testBit_two_pow_sub_one]
  by_cases hi:i<32
  ·simp [hi]
  ·have:e.testBit i=false:=Nat.testBit_lt_two_pow (Nat.lt_of_lt_of_le he (Nat.pow_le_pow_right dCz oQ:2^32≤2^i))
   simp [hi,this]
 rw [hx]
 apply Nat.eq_of_testBit_eq
 intro i
 simp only [Nat.testBit_or,Nat.testBit_and,Nat.testBit_xor]
 cases h1:e.testBit i <;> cases h2:f.testBit i <;> cases h3:g.testBit i <;> cases h4:Nat.testBit 4294967295 i <;> simp_all
 all_goals
  rw [show (4294967295:Nat)=2^32 - 1 from rfl,Nat.testBit_two_pow_sub_one]at h4
  have:e.testBit i=false:=Nat.testBit_lt_two_pow (Nat.lt_of_lt_of_le he (Nat.pow_le_pow_right dCz (by simpa using h4):2^32≤2^i))
  simp_all
theorem maj_eq (a b c:Nat):(a &&& b) ||| (a &&& c) ||| (b &&& c)=(a &&& b) ^^^ (a &&& c) ^^^ (b &&& c):=by
 apply Nat.eq_of_testBit_eq
 intro i
 simp only [Nat.testBit_or,Nat.testBit_and,Nat.testBit_xor]
 cases a.testBit i <;> cases b.testBit i <;> cases c.testBit i <;> rfl
end Go.Sha
namespace Go.Proofs.YtlimfgdbfadohaaGreatDoor
open Go Go.Sl Go.Med Go.MapKept Go.RowKit
section
variable {w0 w:World}{F:List HProp}{bv:Value}{b:Frm.Bs}
theorem turned_2_c (x:Nat) (hx:x<4294967296) (w:World):Calls Tryz.prog 60 #[.int .u32 x,.int .u64 2] w (Rtn fun v w'=>v = .int .u32 (Sha.rr 2 x:Nat)∧w=w'):=by
 have hf:=uQ (show Sha.rr 2 x=(x / 4) ||| (x * 1073741824%4294967296) from Nat.or_comm _ _)
 have e1:IntKind.u32.wrap ((x:Int) * 1073741824)=((x * 1073741824%4294967296:Nat):Int):=by rw [IntKind.wrap_u32];omega
 have e2:(x:Int) / 4=((x / 4:Nat):Int):=rfl
 have ha:x * 1073741824%4294967296<4294967296:=Nat.mod_lt _ dCz
 have hb:x / 4<4294967296:=Nat.lt_of_le_of_lt (Nat.div_le_self _ _) hx
 generalize x * 1073741824%4294967296=a at *
 generalize x / 4=b at *
 have e3:=u32_or_nat b a hb ha
 have e0:IntKind.u64.wrap (32 - 2:Int)=30:=by decide
 clear ha hb
 go_enter Tryz.func60,Tryz.ntmps60
 go_wp2
 go_ret
 exact ⟨_,rfl,by rw [hf.out];rfl,rfl⟩
theorem turned_6_c (x:Nat) (hx:x<4294967296) (w:World):Calls Tryz.prog 60 #[.int .u32 x,.int .u64 6] w (Rtn fun v w'=>v = .int .u32 (Sha.rr 6 x:Nat)∧w=w'):=by
 have hf:=uQ (show Sha.rr 6 x=(x / 64) ||| (x * 67108864%4294967296) from Nat.or_comm _ _)
 have e1:IntKind.u32.wrap ((x:Int) * 67108864)=((x * 67108864%4294967296:Nat):Int):=by rw [IntKind.wrap_u32];omega
 have e2:(x:Int) / 64=((x / 64:Nat):Int):=rfl
 have ha:x * 67108864%4294967296<4294967296:=Nat.mod_lt _ dCz
 have hb:x / 64<4294967296:=Nat.lt_of_le_of_lt (Nat.div_le_self _ _) hx
 generalize x * 67108864%4294967296=a at *
 generalize x / 64=b at *
 have e3:=u32_or_nat b a hb ha
 have e0:IntKind.u64.wrap (32 - 6:Int)=26:=by decide
 clear ha hb
 go_enter Tryz.func60,Tryz.ntmps60
 go_wp2
 go_ret
 exact ⟨_,rfl,by rw [hf.out];rfl,rfl⟩
theorem turned_7_c (x:Nat) (hx:x<4294967296) (w:World):Calls Tryz.prog 60 #[.int .u32 x,.int .u64 7] w (Rtn fun v w'=>v = .int .u32 (Sha.rr 7 x:Nat)∧w=w'):=by
 have hf:=uQ (show Sha.rr 7 x=(x / 128) ||| (x * 33554432%4294967296) from Nat.or_comm _ _)
 have e1:IntKind.u32.wrap ((x:Int) * 33554432)=((x * 33554432%4294967296:Nat):Int):=by rw [IntKind.wrap_u32];omega
 have e2:(x:Int) / 128=((x / 128:Nat):Int):=rfl
 have ha:x * 33554432%4294967296<4294967296:=Nat.mod_lt _ dCz
 have hb:x / 128<4294967296:=Nat.lt_of_le_of_lt (Nat.div_le_self _ _) hx
 generalize x * 33554432%4294967296=a at *
 generalize x / 128=b at *
 have e3:=u32_or_nat b a hb ha
 have e0:IntKind.u64.wrap (32 - 7:Int)=25:=by decide
 clear ha hb
 go_enter Tryz.func60,Tryz.ntmps60
 go_wp2
 go_ret
 exact ⟨_,rfl,by rw [hf.out];rfl,rfl⟩
theorem turned_11_c (x:Nat) (hx:x<4294967296) (w:World):Calls Tryz.prog 60 #[.int .u32 x,.int .u64 11] w (Rtn fun v w'=>v = .int .u32 (Sha.rr 11 x:Nat)∧w=w'):=by
 have hf:=uQ (show Sha.rr 11 x=(x / 2048) ||| (x * 2097152%4294967296) from Nat.or_comm _ _)
 have e1:IntKind.u32.wrap ((x:Int) * 2097152)=((x * 2097152%4294967296:Nat):Int):=by rw [IntKind.wrap_u32];omega
 have e2:(x:Int) / 2048=((x / 2048:Nat):Int):=rfl
 have ha:x * 2097152%4294967296<4294967296:=Nat.mod_lt _ dCz
 have hb:x / 2048<4294967296:=Nat.lt_of_le_of_lt (Nat.div_le_self _ _) hx
 generalize x * 2097152%4294967296=a at *
 generalize x / 2048=b at *
 have e3:=u32_or_nat b a hb ha
 have e0:IntKind.u64.wrap (32 - 11:Int)=21:=by decide
 clear ha hb
 go_enter Tryz.func60,Tryz.ntmps60
 go_wp2
 go_ret
 exact ⟨_,rfl,by rw [hf.out];rfl,rfl⟩
theorem turned_13_c (x:Nat) (hx:x<4294967296) (w:World):Calls Tryz.prog 60 #[.int .u32 x,.int .u64 13] w (Rtn fun v w'=>v = .int .u32 (Sha.rr 13 x:Nat)∧w=w'):=by
 have hf:=uQ (show Sha.rr 13 x=(x / 8192) ||| (x * 524288%4294967296) from Nat.or_comm _ _)
 have e1:IntKind.u32.wrap ((x:Int) * 524288)=((x * 524288%4294967296:Nat):Int):=by rw [IntKind.wrap_u32];omega
 have e2:(x:Int) / 8192=((x / 8192:Nat):Int):=rfl
 have ha:x * 524288%4294967296<4294967296:=Nat.mod_lt _ dCz
 have hb:x / 8192<4294967296:=Nat.lt_of_le_of_lt (Nat.div_le_self _ _) hx
 generalize x * 524288%4294967296=a at *
 generalize x / 8192=b at *
 have e3:=u32_or_nat b a hb ha
 have e0:IntKind.u64.wrap (32 - 13:Int)=19:=by decide
 clear ha hb
 go_enter Tryz.func60,Tryz.ntmps60
 go_wp2
 go_ret
 exact ⟨_,rfl,by rw [hf.out];rfl,rfl⟩
theorem turned_17_c (x:Nat) (hx:x<4294967296) (w:World):Calls Tryz.prog 60 #[.int .u32 x,.int .u64 17] w (Rtn fun v w'=>v = .int .u32 (Sha.rr 17 x:Nat)∧w=w'):=by
 have hf:=uQ (show Sha.rr 17 x=(x / 131072) ||| (x * 32768%4294967296) from Nat.or_comm _ _)
 have e1:IntKind.u32.wrap ((x:Int) * 32768)=((x * 32768%4294967296:Nat):Int):=by rw [IntKind.wrap_u32];omega
 have e2:(x:Int) / 131072=((x / 131072:Nat):Int):=rfl
 have ha:x * 32768%4294967296<4294967296:=Nat.mod_lt _ dCz
 have hb:x / 131072<4294967296:=Nat.lt_of_le_of_lt (Nat.div_le_self _ _) hx
 generalize x * 32768%4294967296=a at *
 generalize x / 131072=b at *
 have e3:=u32_or_nat b a hb ha
 have e0:IntKind.u64.wrap (32 - 17:Int)=15:=by decide
 clear ha hb
 go_enter Tryz.func60,Tryz.ntmps60
 go_wp2
 go_ret
 exact ⟨_,rfl,by rw [hf.out];rfl,rfl⟩
theorem turned_18_c (x:Nat) (hx:x<4294967296) (w:World):Calls Tryz.prog 60 #[.int .u32 x,.int .u64 18] w (Rtn fun v w'=>v = .int .u32 (Sha.rr 18 x:Nat)∧w=w'):=by
 have hf:=uQ (show Sha.rr 18 x=(x / 262144) ||| (x * 16384%4294967296) from Nat.or_comm _ _)
 have e1:IntKind.u32.wrap ((x:Int) * 16384)=((x * 16384%4294967296:Nat):Int):=by rw [IntKind.wrap_u32];omega
 have e2:(x:Int) / 262144=((x / 262144:Nat):Int):=rfl
 have ha:x * 16384%4294967296<4294967296:=Nat.mod_lt _ dCz
 have hb:x / 262144<4294967296:=Nat.lt_of_le_of_lt (Nat.div_le_self _ _) hx
 generalize x * 16384%4294967296=a at *
 generalize x / 262144=b at *
 have e3:=u32_or_nat b a hb ha
 have e0:IntKind.u64.wrap (32 - 18:Int)=14:=by decide
 clear ha hb
 go_enter Tryz.func60,Tryz.ntmps60
 go_wp2
 go_ret
 exact ⟨_,rfl,by rw [hf.out];rfl,rfl⟩
theorem turned_19_c (x:Nat) (hx:x<4294967296) (w:World):Calls Tryz.prog 60 #[.int .u32 x,.int .u64 19] w (Rtn fun v w'=>v = .int .u32 (Sha.rr 19 x:Nat)∧w=w'):=by
 have hf:=uQ (show Sha.rr 19 x=(x / 524288) ||| (x * 8192%4294967296) from Nat.or_comm _ _)
 have e1:IntKind.u32.wrap ((x:Int) * 8192)=((x * 8192%4294967296:Nat):Int):=by rw [IntKind.wrap_u32];omega
 have e2:(x:Int) / 524288=((x / 524288:Nat):Int):=rfl
 have ha:x * 8192%4294967296<4294967296:=Nat.mod_lt _ dCz
 have hb:x / 524288<4294967296:=Nat.lt_of_le_of_lt (Nat.div_le_self _ _) hx
 generalize x * 8192%4294967296=a at *
 generalize x / 524288=b at *
 have e3:=u32_or_nat b a hb ha
 have e0:IntKind.u64.wrap (32 - 19:Int)=13:=by decide
 clear ha hb
 go_enter Tryz.func60,Tryz.ntmps60
 go_wp2
 go_ret
 exact ⟨_,rfl,by rw [hf.out];rfl,rfl⟩
theorem turned_22_c (x:Nat) (hx:x<4294967296) (w:World):Calls Tryz.prog 60 #[.int .u32 x,.int .u64 22] w (Rtn fun v w'=>v = .int .u32 (Sha.rr 22 x:Nat)∧w=w'):=by
 have hf:=uQ (show Sha.rr 22 x=(x / 4194304) ||| (x * 1024%4294967296) from Nat.or_comm _ _)
 have e1:IntKind.u32.wrap ((x:Int) * 1024)=((x * 1024%4294967296:Nat):Int):=by rw [IntKind.wrap_u32];omega
 have e2:(x:Int) / 4194304=((x / 4194304:Nat):Int):=rfl
 have ha:x * 1024%4294967296<4294967296:=Nat.mod_lt _ dCz
 have hb:x / 4194304<4294967296:=Nat.lt_of_le_of_lt (Nat.div_le_self _ _) hx
 generalize x * 1024%4294967296=a at *
 generalize x / 4194304=b at *
 have e3:=u32_or_nat b a hb ha
 have e0:IntKind.u64.wrap (32 - 22:Int)=10:=by decide
 clear ha hb
 go_enter Tryz.func60,Tryz.ntmps60
 go_wp2
 go_ret
 exact ⟨_,rfl,by rw [hf.out];rfl,rfl⟩
theorem turned_25_c (x:Nat) (hx:x<4294967296) (w:World):Calls Tryz.prog 60 #[.int .u32 x,.int .u64 25] w (Rtn fun v w'=>v = .int .u32 (Sha.rr 25 x:Nat)∧w=w'):=by
 have hf:=uQ (show Sha.rr 25 x=(x / 33554432) ||| (x * 128%4294967296) from Nat.or_comm _ _)
 have e1:IntKind.u32.wrap ((x:Int) * 128)=((x * 128%4294967296:Nat):Int):=by rw [IntKind.wrap_u32];omega
 have e2:(x:Int) / 33554432=((x / 33554432:Nat):Int):=rfl
 have ha:x * 128%4294967296<4294967296:=Nat.mod_lt _ dCz
 have hb:x / 33554432<4294967296:=Nat.lt_of_le_of_lt (Nat.div_le_self _ _) hx
 generalize x * 128%4294967296=a at *
 generalize x / 33554432=b at *
 have e3:=u32_or_nat b a hb ha
 have e0:IntKind.u64.wrap (32 - 25:Int)=7:=by decide
 clear ha hb
 go_enter Tryz.func60,Tryz.ntmps60
 go_wp2
 go_ret
 exact ⟨_,rfl,by rw [hf.out];rfl,rfl⟩
theorem rback_c (hl:b.length≤1000) (hr:RS w0 F bv b) (h:Sat w0 w F) :
  Calls Tryz.prog 59 #[bv] w (Rtn fun v w'=>Sat w0 w' (bsl v b.reverse::F)):=by
 obtain ⟨a,c,rfl,_,_⟩:=hr.len h
 have hw1:IntKind.i64.wrap ((b.length:Int) - 1)=(b.length:Int) - 1:=IntWalk.i64_in _ oQ
 have Hl:=uQ hl;have Hr:=uQ hr
 clear hl hr
 go_enter Tryz.func59,Tryz.ntmps59
 go_wp2_with fail
 go_loopg [3,4] b.length (fun g oq iq wr=>∃ (m:Nat) (z:Int) (ov:Value),m=g∧m≤b.length∧ov=oq∧iq = .int .i64 z∧z=(m:Int) - 1∧Sat w0 wr (bsl ov ((b.drop m).reverse)::F))
 case atStart=>exact ⟨b.length,_,_,rfl,Nat.le_refl _,rfl,rfl,rfl,by rw [List.drop_length];exact Sat.osl_nil.2 h⟩
 case round=>
  obtain ⟨m,zz,ov,rfl,hm,rfl,rfl,hzz,hS⟩:=hrel
  clear h hw1
  cases m with
  |zero=>
   have c1:¬ (0:Int)≤zz:=oQ
   rw [List.drop_zero]at hS
   clear hzz hm
   go_wp2_with fail
   go_ret
   exact ⟨_,rfl,hS⟩
  |succ m=>
   obtain rfl:zz=(m:Int):=by omega
   have hlt:m<b.length:=hm
   have c1:(0:Int)≤(m:Int):=oQ
   have c2:(m:Int)<(b.length:Int):=oQ
   have g1:(bys b)[m]?=some (.int .u8 (b[m]'hlt).toNat):=bys_get.2 ⟨_,List.getElem?_eq_getElem hlt,rfl⟩
   obtain ⟨bk,off,rfl,hcs⟩:=rdsl_cells (Hr.out.rd _ (hS.sb:Sat w0 wr F)) g1
   have e1:=hcs _ _ g1
   have Hd:=uQ (show (b.drop (m+1)).reverse++[b[m]'hlt]=(b.drop m).reverse by rw [← List.reverse_cons,List.getElem_cons_drop])
   have Hlen:=uQ (show ((b.drop (m+1)).reverse).length≤1000 by rw [List.length_reverse,List.length_drop];have:=Hl.out;omega)
   have Hm:=uQ hm
   have hw2:IntKind.i64.wrap ((m:Int) - 1)=(m:Int) - 1:=IntWalk.i64_in _ (by have:=Hl.out;omega)
   generalize b[m]'hlt=x at *
   obtain ⟨oa,on,oc,rfl,x1,x2,x3⟩:=bsl_cap' hS
   clear g1 hcs hlt hzz hm x1 x2 x3
   go_wp2_with (first
    |((with_reducible refine at_build1 ⟨?_⟩);refine wl_build1 (e:=5) (sz:=1) (by':=1) kRz hS rFz (cs:=#[.int .u8 x.toNat]) rfl rfl nLz ?_;intro bN wN hN)
    |(with_reducible apply at_append))
   refine ⟨wl_app 5 1 1 kRz hN rFz rFz (xs:=bys ((b.drop (m+1)).reverse)) pick1 pick0 rFz (Nat.le_refl 1) rFz (by rw [bys_len];have:=Hlen.out;omega) (by show 1≤65536;decide) dCz (ys:=bys [x]) rfl ?_⟩
   intro bA nA cA wA hA
   rw [← bys_append,Hd.out]at hA
   clear hN hS e1
   go_wp2_with fail
   go_roundg m
   case measure=>exact Nat.lt_succ_self m
   case rel=>exact ⟨m,_,_,rfl,by have:=Hm.out;omega,rfl,rfl,rfl,hA⟩
set_option maxRecDepth 20000 in
theorem rpad_c (hl:b.length≤1000) (hr:RS w0 F bv b) (h:Sat w0 w F) :
  Calls Tryz.prog 28 #[bv] w (Rtn fun v w'=>Sat w0 w' (bsl v (Sha.padR b)::F)):=by
 obtain ⟨a,c,rfl,y1,y2⟩:=hr.len h
 have hcp:=copy_c h b (hr.rd w h) oQ
 obtain ⟨Z,hZ⟩:∃ Z,(119 - b.length%64)%64=Z:=⟨_,rfl⟩
 have HP:=uQ (show Sha.padR b=b++[128]++List.replicate Z 0++Sha.bigL (8 * b.length) 8 by unfold Sha.padR;rw [hZ])
 obtain ⟨n,hn⟩:∃ n,b.length=n:=⟨_,rfl⟩
 have HZ:=uQ (show Z<64∧(n+1+Z)%64=56∧∀ z,z<Z→(n+1+z)%64≠56 from ⟨by omega,by omega,fun z hz=>by omega⟩)
 rw [hn]at HP hl ⊢
 have Hn:=uQ hn;have Hl:=uQ hl
 have hwn:IntKind.u64.wrap (n:Int)=(n:Int):=by rw [IntKind.wrap_u64];omega
 obtain ⟨n8,hn8⟩:∃ x,8 * n=x:=⟨_,rfl⟩
 have hw8:IntKind.u64.wrap ((n:Int) * 8)=(n8:Int):=by rw [IntKind.wrap_u64];omega
 have Hn8:=uQ hn8
 rw [hn]at hcp
 clear hr h y1 y2 hZ hn hl hn8
 go_enter Tryz.func28,Tryz.ntmps28
 go_wp2_with fail
 refine hcp.mono ?_
 rintro ee w1 ⟨v,rfl,h1,va,vn,vc,rfl⟩
 clear hcp
 go_wp2_with (first
  |((with_reducible refine at_build1 ⟨?_⟩);refine wl_build1 (e:=5) (sz:=1) (by':=1) kRz h1 rFz (cs:=#[.int .u8 128]) rfl rfl nLz ?_;intro bN wN hN)
  |(with_reducible apply at_append))
 refine ⟨wl_app 5 1 1 kRz hN rFz rFz (xs:=bys b) pick1 pick0 rFz (Nat.le_refl 1) rFz (by rw [bys_len,Hn.out];have:=Hl.out;omega) (by show 1≤65536;decide) dCz (ys:=bys [128]) rfl ?_⟩
 intro bA nA cA wA hA
 have h2:Sat w0 wA (bsl (.slice (some ⟨bA,0,none⟩) nA cA) (b++[128]++List.replicate 0 0)::F):=by rw [← bys_append]at hA;rw [List.replicate_zero,List.append_nil];exact hA
 clear hN hA h1
 go_wp2_with fail
 go_loopg [3] Z (fun g oq wr=>∃ (z:Nat) (ov:Value),g=Z - z∧z≤Z∧ov=oq∧Sat w0 wr (bsl ov (b++[128]++List.replicate z 0)::F))
 case atStart=>exact ⟨0,_,rfl,Nat.zero_le _,rfl,h2⟩
 case round=>
  obtain ⟨z,ov,rfl,hz,rfl,hS⟩:=hrel
  clear h2
  obtain ⟨oa,on,oc,rfl,x1,x2,x3⟩:=bsl_cap' hS
  have hol:on=n+1+z:=by rw [x3];simp only [List.length_append,List.length_singleton,List.length_replicate,Hn.out]
  obtain ⟨q1,q2,q3⟩:=HZ.out
  clear x1 x2 x3
  by_cases hzZ:z<Z
  ·have hne:=q3 z hzZ
   have m1:((on:Int)%64==56)=false:=by rw [beq_eq_false_iff_ne];omega
   have m2:¬ (on:Int)%64=56:=oQ
   have m3:¬ on%64=56:=oQ
   have m4:(on%64==56)=false:=beq_eq_false_iff_ne.2 m3
   have Hz:=uQ hzZ
   have Hlen:=uQ (show (b++[128]++List.replicate z (0:UInt8)).length≤2000 by simp only [List.length_append,List.length_singleton,List.length_replicate,Hn.out];have:=Hl.out;omega)
   clear hol q1 q2 q3 hz hne hzZ
   go_wp2_with (first
    |((with_reducible refine at_build1 ⟨?_⟩);refine wl_build1 (e:=5) (sz:=1) (by':=1) kRz hS rFz (cs:=#[.int .u8 0]) rfl rfl nLz ?_;intro bN wN hN)
    |(with_reducible apply at_append))
   refine ⟨wl_app 5 1 1 kRz hN rFz rFz (xs:=bys (b++[128]++List.replicate z 0)) pick1 pick0 rFz (Nat.le_refl 1) rFz (by rw [bys_len];have:=Hlen.out;omega) (by show 1≤65536;decide) dCz (ys:=bys [0]) rfl ?_⟩
   intro bB nB cB wB hB
   rw [← bys_append,List.append_assoc,← List.replicate_succ']at hB
   clear hN hS
   go_wp2_with fail
   go_roundg (Z - (z+1))
   case measure=>have:=Hz.out;omega
   case rel=>exact ⟨z+1,_,rfl,Hz.out,rfl,hB⟩
  ·obtain rfl:z=Z:=by omega
   have m1:((on:Int)%64==56)=true:=by rw [beq_iff_eq];omega
   have m2:(on:Int)%64=56:=oQ
   have m3:on%64=56:=oQ
   have m4:(on%64==56)=true:=by rw [beq_iff_eq];exact m3
   have hput:=rput_c n8 8 (by have:=Hl.out;have:=Hn8.out;omega) dCz dCz hS
   have Hlen:=uQ (show (b++[128]++List.replicate z (0:UInt8)).length≤2000 by simp only [List.length_append,List.length_singleton,List.length_replicate,Hn.out];have:=Hl.out;omega)
   clear hol q1 q2 q3 hz hzZ hS
   go_wp2_with fail
   clear m1 m2 m3 m4
   refine hput.mono ?_
   rintro ee w4 ⟨v,rfl,h4,pa,pn,pc,rfl⟩
   have hbk:=rback_c (b:=Frm.le n8 8) (by rw [Frm.le_len];decide) (RS.of_bsl h4) h4
   clear hput
   go_wp2_with fail
   refine hbk.mono ?_
   rintro ee w5 ⟨v,rfl,h5⟩
   clear hbk h4
   go_wp2_with (with_reducible apply at_append)
   refine ⟨wl_appD 5 1 1 kRz h5 rFz rFz (xs:=bys (b++[128]++List.replicate z 0)) (ys:=bys ((Frm.le n8 8).reverse)) pick2 (Sat.rd h5) (bys_one _) (by rw [bys_len,bys_len,List.length_reverse,Frm.le_len];have:=Hlen.out;omega) dCz ?_⟩
   intro v6 w6 h6
   rw [← bys_append]at h6
   have Hsh:=uQ (show Sat w0 w6 (bsl v6 (Sha.padR b)::F) by rw [HP.out,Hn8.out];exact (show Sat w0 w6 (bsl v6 (b++[128]++List.replicate z 0++(Frm.le n8 8).reverse)::bsl v (Frm.le n8 8).reverse::bsl (.slice pa pn pc) (Frm.le n8 8)::F) from h6).sb)
   clear h5 h6
   go_wp2_with fail
   go_ret
   exact ⟨_,rfl,Hsh.out⟩
end
end Go.Proofs.YtlimfgdbfadohaaGreatDoor
namespace Go.Sha
theorem num_back:∀ (b:Bs),Frm.num b.reverse=big b:=by
 intro b
 rw [← List.reverse_reverse b]
 generalize b.reverse=r
 rw [List.reverse_reverse]
 induction r with
 |nil=>rfl
 |cons c r ih=>
  rw [List.reverse_cons,big_snoc,← ih]
  show c.toNat+256 * Frm.num r=_
  omega
def Pre (b:Bs) (i:Nat) (l:List Nat):Prop:=i≤16∧l=(first b).take i∨16≤i∧i≤64∧l=more (i - 16) (first b)
theorem Pre.len {b:Bs}{i:Nat}{l:List Nat} (h:Pre b i l):l.length=i∧i≤64∧AllW l:=by
 rcases h with ⟨h1,rfl⟩|⟨h1,h2,rfl⟩
 ·exact ⟨by rw [List.length_take,first_len];omega,by omega,fun x hx=>first_all b x (List.mem_of_mem_take hx)⟩
 ·exact ⟨by rw [more_len,first_len];omega,h2,more_all _ _ (first_all b)⟩
theorem Pre.lo {b:Bs}{i:Nat}{l:List Nat} (h:Pre b i l) (hi:i<16):Pre b (i+1) (l++[big ((b.drop (4 * i)).take 4)]):=by
 rcases h with ⟨h1,rfl⟩|⟨h1,h2,rfl⟩
 ·refine .inl ⟨hi,?_⟩
  have e:=List.take_add_one (l:=first b) (i:=i)
  rw [e]
  congr 1
  unfold first
  rw [List.getElem?_map,List.getElem?_range' hi,Option.map_some,Option.toList_some,Nat.one_mul,Nat.zero_add]
 ·omega
theorem Pre.hi {b:Bs}{i:Nat}{l:List Nat} (h:Pre b i l) (h16:16≤i) (h64:i<64):Pre b (i+1) (l++[next l]):=by
 have e:l=more (i - 16) (first b):=by
  rcases h with ⟨h1,rfl⟩|⟨h1,h2,rfl⟩
  ·obtain rfl:i=16:=by omega
   rw [List.take_of_length_le (by rw [first_len];exact Nat.le_refl _)];rfl
  ·rfl
 refine .inr ⟨by omega,h64,?_⟩
 rw [show i+1 - 16=(i - 16)+1 by omega,more_snoc,← e]
theorem Pre.all {b:Bs}{l:List Nat} (h:Pre b 64 l):l=sched b:=by
 rcases h with ⟨h1,_⟩|⟨_,_,e⟩
 ·omega
 ·unfold sched
  exact e
end Go.Sha
namespace Go.Proofs.YtlimfgdbfadohaaGreatDoor
open Go Go.Sl Go.Med Go.MapKept Go.RowKit
abbrev wsl (v:Value) (l:List Nat):HProp:=osl 78 1 v (w32 l)
section
variable {w0 w:World}{F:List HProp}{a:Option Addr}{c:Nat}{b:Frm.Bs}{v:Value}{l:List Nat}
theorem w32_at {i:Nat} (h:i<l.length):(w32 l)[i]?=some (.int .u32 (Sha.at_ l i:Nat)):=by
 unfold w32 Sha.at_
 rw [List.getElem?_map,List.getD_eq_getElem?_getD,List.getElem?_eq_getElem h];rfl
theorem w32_app (l m:List Nat):w32 l++w32 m=w32 (l++m):=by unfold w32;rw [List.map_append]
theorem wsl_sh (h:Sat w0 w (wsl v l::F)):∃ a n c,v = .slice a n c∧n=l.length:=by
 obtain ⟨a,n,c,e,hl⟩:=(Sat.rd h).len
 rw [w32_len,Nat.mul_one]at hl
 exact ⟨a,n,c,e,hl.symm⟩
theorem wsl_at {a:Option Addr}{n c i:Nat} (h:Sat w0 w (wsl (.slice a n c) l::F)) (hi:i<l.length):∃ bk off,a=some ⟨bk,off,none⟩∧∀ w',Sat w0 w' (wsl (.slice a n c) l::F)→∀ j,j<l.length→w'.cell? ⟨bk,off+j,none⟩=some (.int .u32 (Sha.at_ l j:Nat)):=by
 obtain ⟨bk,off,rfl,_⟩:=rdsl_cells (Sat.rd h) (w32_at hi)
 refine ⟨bk,off,rfl,fun w' hw j hj=>?_⟩
 obtain ⟨_,_,he,hc⟩:=rdsl_cells (Sat.rd hw) (w32_at hj)
 cases he
 exact hc j _ (w32_at hj)
set_option maxRecDepth 20000 in
theorem spread_c (hb:b.length=64) (hr:RS w0 F (.slice a 64 c) b) (h:Sat w0 w F) :
  Calls Tryz.prog 30 #[.slice a 64 c] w (Rtn fun v w'=>Sat w0 w' (wsl v (Sha.sched b)::F)):=by
 have Hr:=uQ hr;have Hb:=uQ hb
 obtain ⟨_,_,_,hce,hc1,hc2⟩:=hr.cap
 cases hce
 have Hc:=uQ (And.intro hc1 hc2)
 clear hr hb hc1 hc2
 go_enter Tryz.func30,Tryz.ntmps30
 go_wp2_with fail
 go_loopg [3,4] 64 (fun g oq iq wr=>∃ (i:Nat) (l:List Nat) (ov:Value),g=64 - i∧iq = .int .i64 i∧ov=oq∧Sha.Pre b i l∧Sat w0 wr (wsl ov l::F))
 case atStart=>exact ⟨0,[],_,rfl,rfl,rfl,.inl ⟨Nat.zero_le _,rfl⟩,Sat.osl_nil.2 h⟩
 case round=>
  obtain ⟨i,l,ov,rfl,rfl,rfl,hp,hS⟩:=hrel
  clear h
  obtain ⟨hl,hi,hal⟩:=hp.len
  by_cases hi64:i<64
  rotate_left
  focus
   as_aux_lemma=>
    obtain rfl:i=64:=by omega
    have c1:¬ ((64:Nat):Int)<64:=by decide
    rw [hp.all]at hS
    clear hp hl hi hal hi64
    go_wp2_with fail
    go_ret
    exact ⟨_,rfl,hS⟩
  have c64:(i:Int)<64:=oQ
  have hwi:IntKind.i64.wrap ((i:Int)+1)=((i+1:Nat):Int):=by rw [IntWalk.i64_in _ oQ];omega
  have Hi:=uQ hi64
  have HLl:=uQ (show l.length≤64 by omega)
  by_cases h16:i<16
  ·as_aux_lemma=>
    have c16:(i:Int)<16:=oQ
    obtain ⟨lo,hlo⟩:∃ lo,4 * i=lo:=⟨_,rfl⟩
    have e1:IntKind.i64.wrap (4 * (i:Int))=(lo:Int):=by rw [IntWalk.i64_in _ oQ];omega
    obtain ⟨hi4,hh⟩:∃ hh,lo+4=hh:=⟨_,rfl⟩
    have e2:IntKind.i64.wrap ((lo:Int)+4)=(hi4:Int):=by rw [IntWalk.i64_in _ oQ];omega
    have hrm:=RS.mid (b:=b) (a:=a) (c:=c) (l:=lo) (h:=hi4) (by rw [Hb.out];exact Hr.out) oQ (by rw [Hb.out];omega)
    rw [show hi4 - lo=4 by omega]at hrm
    obtain ⟨sa,sc,hsd⟩:∃ sa sc,sliced a lo hi4 c 1 = .slice sa 4 sc:=⟨_,_,by unfold sliced;rw [show hi4 - lo=4 by omega]⟩
    rw [hsd]at hrm
    have hsl:∀ w,(Instr.sliceAt 27 (.slice a 64 c) (some (.int .i64 lo)) (some (.int .i64 hi4)) none).run Tryz.prog w = .ok (.slice sa 4 sc) w:=fun w=>by
     rw [run_slLH (a:=a) (n:=64) (c:=c) (l:=lo) (h:=hi4) oQ (by have:=Hc.out;omega) w,hsd]
    have h4l:((b.drop lo).take 4).length=4:=by rw [List.length_take,List.length_drop,Hb.out];omega
    have hbk:=rback_c (b:=(b.drop lo).take 4) oQ (hrm.more sbD) hS
    have Hp:=uQ (hp.lo h16)
    rw [hlo]at Hp
    have hbg:Sha.big ((b.drop lo).take 4)<4294967296:=by
     have h1:=Sha.big_lt ((b.drop lo).take 4)
     rw [h4l]at h1;exact h1
    have hnb:=Sha.num_back ((b.drop lo).take 4)
    have h4r:(((b.drop lo).take 4).reverse).length=4:=by rw [List.length_reverse];exact h4l
    have Hgt:=uQ (fun (w':World) (v:Value) (hw:rdsl 1 v (bys ((b.drop lo).take 4).reverse) w')=>rget_c ((b.drop lo).take 4).reverse oQ oQ hw)
    rw [hnb]at Hgt
    generalize Sha.big ((b.drop lo).take 4)=X at *
    generalize ((b.drop lo).take 4).reverse=rb at *
    have x1:IntKind.u32.wrap (X:Int)=(X:Int):=by rw [IntKind.wrap_u32];omega
    have x2:(X:Int)%4294967296=(X:Int):=oQ
    clear hrm hsd hlo hh h4l hbg hnb h4r hp hl hi hal hi64 h16
    go_wp2_with ((with_reducible refine at_slice2 ⟨?_⟩);refine wl_slice2 rFz rFz rFz hsl ?_)
    refine hbk.mono ?_
    rintro ee w4 ⟨v,rfl,h4⟩
    clear hbk hS hsl e1 e2
    go_wp2_with fail
    refine (Hgt.out _ _ (Sat.rd h4)).mono ?_
    rintro ee w5 ⟨v,rfl,rfl,rfl⟩
    have h5:=h4.drop
    clear h4 Hgt
    go_wp2_with (first
     |((with_reducible refine at_build1 ⟨?_⟩);refine wl_build1 (e:=78) (sz:=1) (by':=4) kRz h5 rFz (cs:=#[.int .u32 (X:Int)]) rfl rfl nLz ?_;intro bN wN hN)
     |(with_reducible apply at_append))
    refine ⟨wl_app 78 1 4 kRz hN rFz rFz (xs:=w32 l) pick1 pick0 rFz (Nat.le_refl 1) rFz (by rw [w32_len];have:=HLl.out;omega) (by show 1≤65536;decide) dCz (ys:=w32 [X]) rfl ?_⟩
    intro bA nA cA wA hA
    rw [w32_app]at hA
    clear hN h5
    go_wp2_with fail
    go_roundg (64 - (i+1))
    case measure=>have:=Hi.out;omega
    case rel=>exact ⟨i+1,_,_,rfl,by first|rfl|go_num,rfl,Hp.out,hA⟩
  ·as_aux_lemma=>
    have c16:¬ (i:Int)<16:=oQ
    have Hp:=uQ (hp.hi oQ hi64)
    obtain ⟨p15,h15⟩:∃ p,i - 15=p:=⟨_,rfl⟩
    obtain ⟨p2,h2⟩:∃ p,i - 2=p:=⟨_,rfl⟩
    obtain ⟨p16,h16'⟩:∃ p,i - 16=p:=⟨_,rfl⟩
    obtain ⟨p7,h7⟩:∃ p,i - 7=p:=⟨_,rfl⟩
    have hnx:Sha.next l=(((Sha.at_ l p16+Sha.g0 (Sha.at_ l p15))%4294967296+Sha.at_ l p7)%4294967296+Sha.g1 (Sha.at_ l p2))%4294967296:=by
     unfold Sha.next
     rw [hl,h15,h2,h16',h7]
    obtain ⟨oa,on,oc,rfl,hon⟩:=wsl_sh hS
    obtain ⟨bk,off,rfl,hcs⟩:=wsl_at hS (i:=p2) oQ
    have HG:=uQ (show ∀ w',Sat w0 w' (wsl (.slice (some ⟨bk,off,none⟩) on oc) l::F)→w'.cell? ⟨bk,off+p15,none⟩=some (.int .u32 (Sha.at_ l p15:Nat))∧w'.cell? ⟨bk,off+p2,none⟩=some (.int .u32 (Sha.at_ l p2:Nat))∧w'.cell? ⟨bk,off+p16,none⟩=some (.int .u32 (Sha.at_ l p16:Nat))∧w'.cell? ⟨bk,off+p7,none⟩=some (.int .u32 (Sha.at_ l p7:Nat)) from fun w' hw=>⟨hcs w' hw _ oQ,hcs w' hw _ oQ,hcs w' hw _ oQ,hcs w' hw _ oQ⟩)
    have l15:=Sha.at_lt hal p15
    have l2:=Sha.at_lt hal p2
    generalize Sha.at_ l p15=x15 at *
    generalize Sha.at_ l p2=x2 at *
    generalize Sha.at_ l p16=x16 at *
    generalize Sha.at_ l p7=x7 at *
    have i15:IntKind.i64.wrap ((i:Int) - 15)=(p15:Int):=by rw [IntWalk.i64_in _ oQ];omega
    have i2:IntKind.i64.wrap ((i:Int) - 2)=(p2:Int):=by rw [IntWalk.i64_in _ oQ];omega
    have i16:IntKind.i64.wrap ((i:Int) - 16)=(p16:Int):=by rw [IntWalk.i64_in _ oQ];omega
    have i7:IntKind.i64.wrap ((i:Int) - 7)=(p7:Int):=by rw [IntWalk.i64_in _ oQ];omega
    have b15:(p15:Int)<(on:Int):=oQ
    have b2:(p2:Int)<(on:Int):=oQ
    have b16:(p16:Int)<(on:Int):=oQ
    have b7:(p7:Int)<(on:Int):=oQ
    have H2:=uQ (And.intro i2 b2)
    have H3:=uQ (And.intro i16 (And.intro i7 (And.intro b16 b7)))
    have Hnx:=uQ hnx;have Hl15:=uQ l15;have Hl2:=uQ l2
    have h1:=hS.drew
    have hG:=(HG.out _ h1).1
    obtain ⟨ra,rb,rd,u0,ha,hbb,hd,hu,hg0,hu0⟩:=g0_ex l15
    have e8:IntKind.u32.wrap ((x15:Int) / 8)=(x15:Int) / 8:=by rw [IntKind.wrap_u32];omega
    have hr7:=uQ (turned_7_c x15 l15);have hr18:=uQ (turned_18_c x15 l15)
    rw [ha]at hr7;rw [hbb]at hr18
    clear hS hcs hal hl hi hi64 h16 h15 h2 h16' h7 hnx hp i2 i16 i7 b2 b16 b7 hon ha hbb hu0 l15 l2
    go_wp2_with fail
    refine wpL_begin [19,20] (fun w'=>w'.cell? ⟨bk,off+p15,none⟩=some (.int .u32 (x15:Nat))) kRz ?_
    refine rP 0 ?_ (y:=mvQ)
    refine rP 1 ?_ (y:=mvQ)
    refine rP 2 ?_ (y:=bnQ)
    refine rP 3 ?_ (y:=ixQ)
    refine rt 4 (h:=?_)
    refine rP 6 ?_ (y:=mvQ)
    refine rP 7 ?_ (y:=mvQ)
    refine rP 8 ?_ (y:=bnQ)
    refine rP 9 ?_ (y:=ixQ)
    refine rt 10 (h:=?_)
    refine rP 13 ?_ (y:=mvQ)
    refine rP 14 ?_ (y:=mvQ)
    refine rP 15 ?_ (y:=bnQ)
    refine rP 16 ?_ (y:=ixQ)
    refine rt 17 (h:=?_)
    refine rP 18 ?_ (y:=bnQ)
    clear hG
    refine rg_eff 5 evD kRz (fun K hK=>?_)
    (refine eff_call2 kRz evD evD ?_)
    refine (hr7.out _).mono ?_
    rintro ee w11 ⟨v,rfl,rfl,rfl⟩
    refine hK _ _ (.inr (.inr rfl)) ?_
    clear hK
    refine rg_eff 11 evD kRz (fun K hK=>?_)
    (refine eff_call2 kRz evD evD ?_)
    refine (hr18.out _).mono ?_
    rintro ee w12 ⟨v,rfl,rfl,rfl⟩
    refine hK _ _ (.inr (.inr rfl)) ?_
    clear hK
    refine rP 12 ?_ (y:=bnQ)
    refine rP 19 ?_ (y:=bnQ)
    refine rP 20 ?_ (y:=asQ)
    refine wpL_done kRz ?_
    clear hd hu hr7 hr18 i15 b15 e8
    obtain ⟨i2,b2⟩:=H2.out
    have h2:=h1.drew
    have hG:=(HG.out _ h2).2.1
    obtain ⟨sa,sb,sd,u1,ha,hbb,hd,hu,hg1,hu1⟩:=g1_ex Hl2.out
    have l2:=Hl2.out
    have e8:IntKind.u32.wrap ((x2:Int) / 1024)=(x2:Int) / 1024:=by rw [IntKind.wrap_u32];omega
    have hr7:=uQ (turned_17_c x2 Hl2.out);have hr18:=uQ (turned_19_c x2 Hl2.out)
    rw [ha]at hr7;rw [hbb]at hr18
    clear h1 ha hbb hu1 l2
    go_wp2_with fail
    refine wpL_begin [19,20] (fun w'=>w'.cell? ⟨bk,off+p2,none⟩=some (.int .u32 (x2:Nat))) kRz ?_
    refine rP 0 ?_ (y:=mvQ)
    refine rP 1 ?_ (y:=mvQ)
    refine rP 2 ?_ (y:=bnQ)
    refine rP 3 ?_ (y:=ixQ)
    refine rt 4 (h:=?_)
    refine rP 6 ?_ (y:=mvQ)
    refine rP 7 ?_ (y:=mvQ)
    refine rP 8 ?_ (y:=bnQ)
    refine rP 9 ?_ (y:=ixQ)
    refine rt 10 (h:=?_)
    refine rP 13 ?_ (y:=mvQ)
    refine rP 14 ?_ (y:=mvQ)
    refine rP 15 ?_ (y:=bnQ)
    refine rP 16 ?_ (y:=ixQ)
    refine rt 17 (h:=?_)
    refine rP 18 ?_ (y:=bnQ)
    clear hG
    refine rg_eff 5 evD kRz (fun K hK=>?_)
    (refine eff_call2 kRz evD evD ?_)
    refine (hr7.out _).mono ?_
    rintro ee w13 ⟨v,rfl,rfl,rfl⟩
    refine hK _ _ (.inr (.inr rfl)) ?_
    clear hK
    refine rg_eff 11 evD kRz (fun K hK=>?_)
    (refine eff_call2 kRz evD evD ?_)
    refine (hr18.out _).mono ?_
    rintro ee w14 ⟨v,rfl,rfl,rfl⟩
    refine hK _ _ (.inr (.inr rfl)) ?_
    clear hK
    refine rP 12 ?_ (y:=bnQ)
    refine rP 19 ?_ (y:=bnQ)
    refine rP 20 ?_ (y:=asQ)
    refine wpL_done kRz ?_
    clear hd hu hr7 hr18 i2 b2 e8
    obtain ⟨i16,i7,b16,b7⟩:=H3.out
    obtain ⟨s1,s2,s3,k1,k2,k3,k4⟩:=nx_ex x16 u0 x7 u1
    have hnx2:Sha.next l=s3:=by rw [Hnx.out,hg0,hg1,k4]
    rw [hnx2]at Hp
    have h3:=h2.drew
    have hG:=(HG.out _ h3).2.2
    clear h2 hnx2 k4 hg0 hg1
    go_wp2_with fail
    refine wpL_begin [13,15,16,17,18] (fun w'=>w'.cell? ⟨bk,off+p16,none⟩=some (.int .u32 (x16:Nat))∧w'.cell? ⟨bk,off+p7,none⟩=some (.int .u32 (x7:Nat))) kRz ?_
    refine rP 0 ?_ (y:=mvQ)
    refine rP 1 ?_ (y:=mvQ)
    refine rP 2 ?_ (y:=mvQ)
    refine rP 3 ?_ (y:=bnQ)
    refine rP 4 ?_ (y:=ixQ)
    refine rt 5 (h:=?_)
    refine rP 6 ?_ (y:=mvQ)
    refine rP 7 ?_ (y:=bnQ)
    refine rP 8 ?_ (y:=mvQ)
    refine rP 9 ?_ (y:=mvQ)
    refine rP 10 ?_ (y:=bnQ)
    refine rP 11 ?_ (y:=ixQ)
    refine rt 12 (h:=?_)
    clear hG
    refine rP 13 ?_ (y:=bnQ)
    refine rP 14 ?_ (y:=mvQ)
    refine rP 15 ?_ (y:=bnQ)
    refine rg_eff 16 evD kRz (fun K hK=>?_)
    refine eff_build1 (e:=78) (sz:=1) (by':=4) kRz h3 evD (cs:=#[.int .u32 (s3:Int)]) rfl rfl nLz ?_
    intro bN wN hN
    refine hK _ _ (.inl rfl) ?_
    clear hK h3
    refine rg_eff 17 evD kRz (fun K hK=>?_)
    refine eff_app 78 1 4 kRz hN evD evD (xs:=w32 l) pick1 pick0 rFz (Nat.le_refl 1) rFz (by rw [w32_len];have:=HLl.out;omega) (by show 1≤65536;decide) dCz (ys:=w32 [s3]) rfl ?_
    intro bA nA cA wA hA
    refine hK _ _ (.inl rfl) ?_
    rw [w32_app]at hA
    clear hK hN
    refine rP 18 ?_ (y:=asQ)
    refine wpL_done kRz ?_
    clear i16 i7 b16 b7 k1 k2 k3
    go_wp2_with fail
    go_roundg (64 - (i+1))
    case measure=>have:=Hi.out;omega
    case rel=>exact ⟨i+1,_,_,rfl,by first|rfl|go_num,rfl,Hp.out,hA⟩
end
theorem t1r_ex {s:Sha.St} (h:s.Ok) (k w:Nat):∃ r6 r11 r25 d1 d2 a1 n1 a2 x1 u1 u2 u3 u4:Nat,Sha.rr 6 s.e=r6∧Sha.rr 11 s.e=r11∧Sha.rr 25 s.e=r25∧bits .xor .u32 (r6:Int) (r11:Int)=(d1:Int)∧bits .xor .u32 (d1:Int) (r25:Int)=(d2:Int) ∧
  bits .and .u32 (s.e:Int) (s.f:Int)=(a1:Int)∧bits .xor .u32 (s.e:Int) 4294967295=(n1:Int)∧bits .and .u32 (n1:Int) (s.g:Int)=(a2:Int)∧bits .or .u32 (a1:Int) (a2:Int)=(x1:Int)∧IntKind.u32.wrap ((s.h:Int)+(d2:Int))=(u1:Int)∧IntKind.u32.wrap ((u1:Int)+(x1:Int))=(u2:Int)∧IntKind.u32.wrap ((u2:Int)+(k:Int))=(u3:Int)∧IntKind.u32.wrap ((u3:Int)+(w:Int))=(u4:Int)∧Sha.t1 s k w=u4:=by
 have hr:=fun n=>Sha.rr_lt n h.e
 have hn:s.e ^^^ 4294967295<4294967296:=Sha.xor_lt h.e dCz
 refine ⟨_,_,_,Sha.rr 6 s.e ^^^ Sha.rr 11 s.e,Sha.rr 6 s.e ^^^ Sha.rr 11 s.e ^^^ Sha.rr 25 s.e,s.e &&& s.f,s.e ^^^ 4294967295,(s.e ^^^ 4294967295) &&& s.g,(s.e &&& s.f) ||| ((s.e ^^^ 4294967295) &&& s.g),_,_,_,_,rfl,rfl,rfl,u32_xor_nat _ _ (hr 6) (hr 11),u32_xor_nat _ _ (Sha.xor_lt (hr 6) (hr 11)) (hr 25),u32_and_nat _ _ h.e h.f,u32_xor_nat _ 4294967295 h.e dCz,u32_and_nat _ _ hn h.g,u32_or_nat _ _ (Sha.and_lt h.e) (Sha.and_lt hn),addU _ _,addU _ _,addU _ _,addU _ _,?_⟩
 rw [Sha.ch_eq _ _ _ h.e]
 rfl
theorem t2r_ex {s:Sha.St} (h:s.Ok):∃ r2 r13 r22 d1 d2 a1 a2 x1 a3 x2:Nat,Sha.rr 2 s.a=r2∧Sha.rr 13 s.a=r13∧Sha.rr 22 s.a=r22∧bits .xor .u32 (r2:Int) (r13:Int)=(d1:Int)∧bits .xor .u32 (d1:Int) (r22:Int)=(d2:Int)∧bits .and .u32 (s.a:Int) (s.b:Int)=(a1:Int)∧bits .and .u32 (s.a:Int) (s.c:Int)=(a2:Int)∧bits .or .u32 (a1:Int) (a2:Int)=(x1:Int)∧bits .and .u32 (s.b:Int) (s.c:Int)=(a3:Int)∧bits .or .u32 (x1:Int) (a3:Int)=(x2:Int)∧Sha.t2 s=(d2+x2)%4294967296:=by
 have hr:=fun n=>Sha.rr_lt n h.a
 refine ⟨_,_,_,Sha.rr 2 s.a ^^^ Sha.rr 13 s.a,Sha.rr 2 s.a ^^^ Sha.rr 13 s.a ^^^ Sha.rr 22 s.a,s.a &&& s.b,s.a &&& s.c,(s.a &&& s.b) ||| (s.a &&& s.c),s.b &&& s.c,(s.a &&& s.b) ||| (s.a &&& s.c) ||| (s.b &&& s.c),rfl,rfl,rfl,u32_xor_nat _ _ (hr 2) (hr 13),u32_xor_nat _ _ (Sha.xor_lt (hr 2) (hr 13)) (hr 22),u32_and_nat _ _ h.a h.b,u32_and_nat _ _ h.a h.c,u32_or_nat _ _ (Sha.and_lt h.a) (Sha.and_lt h.a),u32_and_nat _ _ h.b h.c,u32_or_nat _ _ (Sha.or_lt (Sha.and_lt h.a) (Sha.and_lt h.a)) (Sha.and_lt h.b),?_⟩
 rw [Sha.maj_eq]
 rfl
theorem rr_ex (s:Sha.St) (k w t d2 x2:Nat) (ht:Sha.t1 s k w=t) (hu:Sha.t2 s=(d2+x2)%4294967296):∃ y z1 z2:Nat,IntKind.u32.wrap ((t:Int)+(d2:Int))=(y:Int)∧IntKind.u32.wrap ((y:Int)+(x2:Int))=(z1:Int)∧IntKind.u32.wrap ((s.d:Int)+(t:Int))=(z2:Int)∧Sha.round s k w=⟨z1,s.a,s.b,s.c,z2,s.e,s.f,s.g⟩:=
 ⟨_,_,_,addU _ _,addU _ _,addU _ _,by
  unfold Sha.round
  rw [ht,hu]
  congr 1
  show (t+(d2+x2)%4294967296)%4294967296=((t+d2)%4294967296+x2)%4294967296
  omega⟩
section
variable {P:Program}{w0 w:World}{L:List HProp}{ops:Array Oper}{rest:List Oper}{a:Act}{Q:Exit→Act→World→Prop}{dst:Option Tmp}{t ty e:TypeId}{pos:String}{after:Array Edge}{n:Nat}{cs:Array Value}
theorem wp_slc {K:Act→World→Prop}{g:Option (Nat×Bool)}{xs:Array (Nat×Operand)}{vs:Array (Nat×Value)} (hv:xs.map (fun p=>(p.1,a.eval p.2))=vs) (hr:∀ w,(Instr.buildSlice ty n vs).run P w = .ok (.slice (some ⟨w.heap.size,0,none⟩) n n) (w.alloc (.cells cs e))) (hs:Sat w0 w L)
  (hK:∀ b w',Sat w0 w' (pt b (.cells cs e (0,0))::L)→K (a.put dst (.slice (some ⟨b,0,none⟩) n n)) w'):Oper.wp P ⟨dst,.buildSlice ty n xs,t,pos,after,g⟩ a w K Q:=by
 have hS:=hs.alloc (.cells cs e)
 unfold Oper.wp execOp
 simp only [hv,Sem.run_bind,hr,Result.andThen_ok,Sem.run_pure]
 exact hK _ _ hS
theorem wl_slc {xs:Array (Nat×Operand)}{vs:Array (Nat×Value)} (hv:xs.map (fun p=>(p.1,a.eval p.2))=vs) (hr:∀ w,(Instr.buildSlice ty n vs).run P w = .ok (.slice (some ⟨w.heap.size,0,none⟩) n n) (w.alloc (.cells cs e))) (hs:Sat w0 w L)
  (hK:∀ b w',Sat w0 w' (pt b (.cells cs e (0,0))::L)→wpList P ops Q rest (a.put dst (.slice (some ⟨b,0,none⟩) n n)) w'):wpList P ops Q (⟨dst,.buildSlice ty n xs,t,pos,after,none⟩::rest) a w:=
 wpList_plain rfl fun _ hK'=>wp_slc hv hr hs fun b w' h=>hK' _ _ (hK b w' h)
theorem eff_slc {K:Act→World→Prop}{E:Prop}{xs:Array (Nat×Operand)}{vs:Array (Nat×Value)} (hv:xs.map (fun p=>(p.1,a.eval p.2))=vs) (hr:∀ w,(Instr.buildSlice ty n vs).run P w = .ok (.slice (some ⟨w.heap.size,0,none⟩) n n) (w.alloc (.cells cs e))) (hs:Sat w0 w L)
  (hK:∀ b w',Sat w0 w' (pt b (.cells cs e (0,0))::L)→K (a.put dst (.slice (some ⟨b,0,none⟩) n n)) w'):if Region.wanted ⟨dst,.buildSlice ty n xs,t,pos,after,none⟩ (yielded ops a.tmps)=true then Oper.wp P ⟨dst,.buildSlice ty n xs,t,pos,after,none⟩ a w K Q else E:=
 eff_of rfl (wp_slc hv hr hs hK)
end
def st8w (x0 x1 x2 x3 x4 x5 x6 x7:Int):Array Value:=#[.int .u32 x0,.int .u32 x1,.int .u32 x2,.int .u32 x3,.int .u32 x4,.int .u32 x5,.int .u32 x6,.int .u32 x7]
theorem run_sl8 (x0 x1 x2 x3 x4 x5 x6 x7:Int) (w:World):(Instr.buildSlice 79 8 #[(0,.int .u32 x0),(1,.int .u32 x1),(2,.int .u32 x2),(3,.int .u32 x3),(4,.int .u32 x4),(5,.int .u32 x5),(6,.int .u32 x6),(7,.int .u32 x7)]).run Tryz.prog w = .ok (.slice (some ⟨w.heap.size,0,none⟩) 8 8) (w.alloc (.cells (st8w x0 x1 x2 x3 x4 x5 x6 x7) 78)):=by kernel_rfl
theorem st8w_wsl {w0 w:World}{F:List HProp}{b:Nat} (s:Sha.St) (h:Sat w0 w (pt b (.cells (st8w s.a s.b s.c s.d s.e s.f s.g s.h) 78 (0,0))::F)):Sat w0 w (wsl (.slice (some ⟨b,0,none⟩) 8 8) s.l::F):=
 Sat.osl_of_pt h rfl (Nat.le_refl _) (Nat.le_refl _) dCz rfl
section
variable {w0 w:World}{F:List HProp}{b:Frm.Bs}{s:Sha.St}{sv wv:Value}
set_option maxRecDepth 20000 in
theorem rounds_c (hs:s.Ok) (h:Sat w0 w (wsl sv s.l::wsl wv (Sha.sched b)::F)) :
  Calls Tryz.prog 29 #[sv,wv] w (Rtn fun v w'=>Sat w0 w' (wsl v (Sha.take s b).l::F)):=by
 have Hs:=uQ hs
 obtain ⟨sa,sn,sc,rfl,hsn⟩:=wsl_sh h
 obtain ⟨wa,wn,wc,rfl,hwn⟩:=wsl_sh h.pick1
 obtain rfl:sn=8:=hsn
 rw [Sha.sched_len]at hwn
 subst hwn
 obtain ⟨sb,so,rfl,hS⟩:=wsl_at h (i:=0) (show 0<8 by decide)
 obtain ⟨wb,wo,rfl,hW⟩:=wsl_at h.pick1 (i:=0) (by rw [Sha.sched_len];decide)
 have HS:=uQ (show ∀ w',Sat w0 w' (wsl (.slice (some ⟨sb,so,none⟩) 8 sc) s.l::wsl (.slice (some ⟨wb,wo,none⟩) 64 wc) (Sha.sched b)::F)→(w'.cell? ⟨sb,so,none⟩=some (.int .u32 (s.a:Nat))∧w'.cell? ⟨sb,so+1,none⟩=some (.int .u32 (s.b:Nat))∧w'.cell? ⟨sb,so+2,none⟩=some (.int .u32 (s.c:Nat))∧w'.cell? ⟨sb,so+3,none⟩=some (.int .u32 (s.d:Nat)))∧(w'.cell? ⟨sb,so+4,none⟩=some (.int .u32 (s.e:Nat))∧w'.cell? ⟨sb,so+5,none⟩=some (.int .u32 (s.f:Nat))∧w'.cell? ⟨sb,so+6,none⟩=some (.int .u32 (s.g:Nat))∧w'.cell? ⟨sb,so+7,none⟩=some (.int .u32 (s.h:Nat))) from fun w' hw=>
  ⟨⟨hS w' hw 0 (by show 0<8;decide),hS w' hw 1 (by show 1<8;decide),hS w' hw 2 (by show 2<8;decide),hS w' hw 3 (by show 3<8;decide)⟩,hS w' hw 4 (by show 4<8;decide),hS w' hw 5 (by show 5<8;decide),hS w' hw 6 (by show 6<8;decide),hS w' hw 7 (by show 7<8;decide)⟩)
 have HW:=uQ (show ∀ w',Sat w0 w' (wsl (.slice (some ⟨wb,wo,none⟩) 64 wc) (Sha.sched b)::wsl (.slice (some ⟨sb,so,none⟩) 8 sc) s.l::F)→∀ j,j<64→w'.cell? ⟨wb,wo+j,none⟩=some (.int .u32 (Sha.at_ (Sha.sched b) j:Nat)) from fun w' hw j hj=>hW w' hw j (by rw [Sha.sched_len];exact hj))
 obtain ⟨KA,hKA⟩:∃ KA,(w32 Sha.K).toArray=KA:=⟨_,rfl⟩
 have hks:KA.size=64:=by rw [← hKA];rfl
 have HK1:=uQ (show KA.toList.all (·.oneCell')=true by rw [← hKA];rfl)
 have HKA:=uQ (show ∀ i,i<64→KA[i]?=some (.int .u32 (Sha.at_ Sha.K i:Nat)) from fun i hi=>by rw [← hKA,List.getElem?_toArray];exact w32_at hi)
 have Hks:=uQ hks
 have HKE:=uQ hKA
 clear hs hS hW hKA hks
 go_enter Tryz.func29,Tryz.ntmps29
 go_wp2_with (with_reducible apply at_alloc)
 refine ⟨wl_alloc zArr64 h rfl ?_⟩
 intro b5 w5 h5
 clear h
 go_wp2_with (with_reducible apply at_store)
 refine ⟨wl_storeA KA h5 rFz (by rw [← HKE.out];rfl) (Hks.out.trans (arr64_size (l:=[]) dCz).symm) upd0 (by rw [Hks.out];exact infoArr64) HK1.out ?_⟩
 intro w6 h6
 clear h5 HKE
 try generalize Value.agg _=vK
 go_wp2_with fail
 have h7:=h6.drew
 have hG:=(HS.out _ h7.drop).1
 clear h6
 refine wpL_begin [15] (fun w'=>w'.cell? ⟨sb,so,none⟩=some (.int .u32 (s.a:Nat))∧w'.cell? ⟨sb,so+1,none⟩=some (.int .u32 (s.b:Nat))∧w'.cell? ⟨sb,so+2,none⟩=some (.int .u32 (s.c:Nat))∧w'.cell? ⟨sb,so+3,none⟩=some (.int .u32 (s.d:Nat))) kRz ?_
 refine rP 0 ?_ (y:=mvQ)
 refine rP 1 ?_ (y:=ixQ)
 refine rt 2 (h:=?_)
 refine rP 3 ?_ (y:=mvQ)
 refine rP 4 ?_ (y:=ixQ)
 refine rt 5 (h:=?_)
 refine rP 6 ?_ (y:=mvQ)
 refine rP 7 ?_ (y:=ixQ)
 refine rt 8 (h:=?_)
 refine rP 9 ?_ (y:=mvQ)
 refine rP 10 ?_ (y:=ixQ)
 refine rt 11 (h:=?_)
 clear hG
 refine rP 12 ?_ (y:=asQ)
 refine rP 13 ?_ (y:=asQ)
 refine rP 14 ?_ (y:=asQ)
 refine rP 15 ?_ (y:=asQ)
 refine wpL_done kRz ?_
 go_wp2_with fail
 have h8:=h7.drew
 have hG:=(HS.out _ h8.drop).2
 clear h7
 refine wpL_begin [15] (fun w'=>w'.cell? ⟨sb,so+4,none⟩=some (.int .u32 (s.e:Nat))∧w'.cell? ⟨sb,so+5,none⟩=some (.int .u32 (s.f:Nat))∧w'.cell? ⟨sb,so+6,none⟩=some (.int .u32 (s.g:Nat))∧w'.cell? ⟨sb,so+7,none⟩=some (.int .u32 (s.h:Nat))) kRz ?_
 refine rP 0 ?_ (y:=mvQ)
 refine rP 1 ?_ (y:=ixQ)
 refine rt 2 (h:=?_)
 refine rP 3 ?_ (y:=mvQ)
 refine rP 4 ?_ (y:=ixQ)
 refine rt 5 (h:=?_)
 refine rP 6 ?_ (y:=mvQ)
 refine rP 7 ?_ (y:=ixQ)
 refine rt 8 (h:=?_)
 refine rP 9 ?_ (y:=mvQ)
 refine rP 10 ?_ (y:=ixQ)
 refine rt 11 (h:=?_)
 clear hG
 refine rP 12 ?_ (y:=asQ)
 refine rP 13 ?_ (y:=asQ)
 refine rP 14 ?_ (y:=asQ)
 refine rP 15 ?_ (y:=asQ)
 refine wpL_done kRz ?_
 go_wp2_with fail
 go_loopg [6,7,8,9,10,11,12,13,14] 64 (fun gg q6 q7 q8 q9 q10 q11 q12 q13 iq wr=>∃ (i:Nat) (r:Sha.St),gg=64 - i∧i≤64∧r=Sha.rounds b s i ∧ .int .u32 (r.a:Nat)=q6 ∧ .int .u32 (r.b:Nat)=q7 ∧ .int .u32 (r.c:Nat)=q8 ∧ .int .u32 (r.d:Nat)=q9 ∧ .int .u32 (r.e:Nat)=q10 ∧ .int .u32 (r.f:Nat)=q11 ∧ .int .u32 (r.g:Nat)=q12 ∧ .int .u32 (r.h:Nat)=q13∧iq = .int .i64 i∧Sat w0 wr (pt b5 (.cells KA 129 (0,0))::wsl (.slice (some ⟨sb,so,none⟩) 8 sc) s.l::wsl (.slice (some ⟨wb,wo,none⟩) 64 wc) (Sha.sched b)::F))
 case atStart=>exact ⟨0,s,rfl,Nat.zero_le _,rfl,rfl,rfl,rfl,rfl,rfl,rfl,rfl,rfl,rfl,h8⟩
 case round=>
  obtain ⟨i,r,rfl,hi,hr,rfl,rfl,rfl,rfl,rfl,rfl,rfl,rfl,rfl,hS⟩:=hrel
  clear h8
  by_cases hil:i<64
  rotate_left
  focus
   as_aux_lemma=>
    obtain rfl:i=64:=by omega
    have c1:¬ ((64:Nat):Int)<64:=by decide
    have Hf:=uQ (show Sha.take s b=Sha.add s r by rw [hr];rfl)
    obtain ⟨v0,v1,v2,v3,v4,v5,v6,v7,e0,e1,e2,e3,e4,e5,e6,e7,he⟩:∃ v0 v1 v2 v3 v4 v5 v6 v7:Nat,IntKind.u32.wrap ((s.a:Int)+(r.a:Int))=(v0:Int)∧IntKind.u32.wrap ((s.b:Int)+(r.b:Int))=(v1:Int)∧IntKind.u32.wrap ((s.c:Int)+(r.c:Int))=(v2:Int)∧IntKind.u32.wrap ((s.d:Int)+(r.d:Int))=(v3:Int)∧IntKind.u32.wrap ((s.e:Int)+(r.e:Int))=(v4:Int)∧IntKind.u32.wrap ((s.f:Int)+(r.f:Int))=(v5:Int)∧IntKind.u32.wrap ((s.g:Int)+(r.g:Int))=(v6:Int)∧IntKind.u32.wrap ((s.h:Int)+(r.h:Int))=(v7:Int)∧Sha.add s r=⟨v0,v1,v2,v3,v4,v5,v6,v7⟩:=
     ⟨_,_,_,_,_,_,_,_,addU _ _,addU _ _,addU _ _,addU _ _,addU _ _,addU _ _,addU _ _,addU _ _,rfl⟩
    rw [he]at Hf
    have h1:=hS.drew
    have hG:=HS.out _ h1.drop
    have HH:=uQ h1
    clear hS h1 hi hil hr he
    go_wp2_with fail
    refine wpL_begin [40,41] (fun w'=>(w'.cell? ⟨sb,so,none⟩=some (.int .u32 (s.a:Nat))∧w'.cell? ⟨sb,so+1,none⟩=some (.int .u32 (s.b:Nat))∧w'.cell? ⟨sb,so+2,none⟩=some (.int .u32 (s.c:Nat))∧w'.cell? ⟨sb,so+3,none⟩=some (.int .u32 (s.d:Nat)))∧(w'.cell? ⟨sb,so+4,none⟩=some (.int .u32 (s.e:Nat))∧w'.cell? ⟨sb,so+5,none⟩=some (.int .u32 (s.f:Nat))∧w'.cell? ⟨sb,so+6,none⟩=some (.int .u32 (s.g:Nat))∧w'.cell? ⟨sb,so+7,none⟩=some (.int .u32 (s.h:Nat)))) kRz ?_
    refine rP 0 ?_ (y:=mvQ)
    refine rP 1 ?_ (y:=ixQ)
    refine rg_take 2 evD kRz i3z (tk_load evD kRz (fun w hw=>hw.1.1)) aQ gQ ?_
    refine rP 3 ?_ (y:=mvQ)
    refine rP 4 ?_ (y:=bnQ)
    refine rP 5 ?_ (y:=mvQ)
    refine rP 6 ?_ (y:=ixQ)
    refine rg_take 7 evD kRz i3z (tk_load evD kRz (fun w hw=>hw.1.2.1)) aQ gQ ?_
    refine rP 8 ?_ (y:=mvQ)
    refine rP 9 ?_ (y:=bnQ)
    refine rP 10 ?_ (y:=mvQ)
    refine rP 11 ?_ (y:=ixQ)
    refine rg_take 12 evD kRz i3z (tk_load evD kRz (fun w hw=>hw.1.2.2.1)) aQ gQ ?_
    refine rP 13 ?_ (y:=mvQ)
    refine rP 14 ?_ (y:=bnQ)
    refine rP 15 ?_ (y:=mvQ)
    refine rP 16 ?_ (y:=ixQ)
    refine rg_take 17 evD kRz i3z (tk_load evD kRz (fun w hw=>hw.1.2.2.2)) aQ gQ ?_
    refine rP 18 ?_ (y:=mvQ)
    refine rP 19 ?_ (y:=bnQ)
    refine rP 20 ?_ (y:=mvQ)
    refine rP 21 ?_ (y:=ixQ)
    refine rg_take 22 evD kRz i3z (tk_load evD kRz (fun w hw=>hw.2.1)) aQ gQ ?_
    refine rP 23 ?_ (y:=mvQ)
    refine rP 24 ?_ (y:=bnQ)
    refine rP 25 ?_ (y:=mvQ)
    refine rP 26 ?_ (y:=ixQ)
    refine rg_take 27 evD kRz i3z (tk_load evD kRz (fun w hw=>hw.2.2.1)) aQ gQ ?_
    refine rP 28 ?_ (y:=mvQ)
    refine rP 29 ?_ (y:=bnQ)
    refine rP 30 ?_ (y:=mvQ)
    refine rP 31 ?_ (y:=ixQ)
    refine rg_take 32 evD kRz i3z (tk_load evD kRz (fun w hw=>hw.2.2.2.1)) aQ gQ ?_
    refine rP 33 ?_ (y:=mvQ)
    refine rP 34 ?_ (y:=bnQ)
    refine rP 35 ?_ (y:=mvQ)
    refine rP 36 ?_ (y:=ixQ)
    refine rg_take 37 evD kRz i3z (tk_load evD kRz (fun w hw=>hw.2.2.2.2)) aQ gQ ?_
    clear hG
    refine rP 38 ?_ (y:=mvQ)
    refine rP 39 ?_ (y:=bnQ)
    refine rg_eff 40 evD kRz (fun K hK=>?_)
    refine eff_slc (by simp only [List.map_toArray,List.map_cons,List.map_nil];rfl) (run_sl8 v0 v1 v2 v3 v4 v5 v6 v7) HH.out ?_
    intro bN wN hN
    refine hK _ _ (.inl rfl) ?_
    clear hK
    refine rP 41 ?_ (y:=asQ)
    refine wpL_done kRz ?_
    have Hsh:=uQ ((st8w_wsl ⟨v0,v1,v2,v3,v4,v5,v6,v7⟩ hN).sb:Sat w0 wN (wsl (.slice (some ⟨bN,0,none⟩) 8 8) (Sha.St.l ⟨v0,v1,v2,v3,v4,v5,v6,v7⟩)::F))
    clear hN e0 e1 e2 e3 e4 e5 e6 e7
    go_wp2_with fail
    go_ret
    exact ⟨_,rfl,by rw [Hf.out];exact Hsh.out⟩
  as_aux_lemma=>
   have Hr1:=uQ (show Sha.rounds b s (i+1)=Sha.round r (Sha.at_ Sha.K i) (Sha.at_ (Sha.sched b) i) by rw [Sha.rounds_succ,← hr])
   have hro:r.Ok:=by rw [hr];exact Sha.rounds_ok Hs.out b i
   have g5:=HKA.out i hil
   have HG:=uQ (show ∀ w',Sat w0 w' (pt b5 (.cells KA 129 (0,0))::wsl (.slice (some ⟨sb,so,none⟩) 8 sc) s.l::wsl (.slice (some ⟨wb,wo,none⟩) 64 wc) (Sha.sched b)::F)→w'.cell? ⟨b5,i,none⟩=some (.int .u32 (Sha.at_ Sha.K i:Nat))∧w'.cell? ⟨wb,wo+i,none⟩=some (.int .u32 (Sha.at_ (Sha.sched b) i:Nat)) from fun w' hw=>⟨hw.cellP pick0 i g5,HW.out w' (hw.sb) i hil⟩)
   obtain ⟨r6,r11,r25,d1,d2,a1,n1,a2,x1,u1,u2,u3,u4,f1,f2,f3,f4,f5,f6,f7,f8,f9,f10,f11,f12,f13,f14⟩:=t1r_ex hro (Sha.at_ Sha.K i) (Sha.at_ (Sha.sched b) i)
   obtain ⟨q2,q13,q22,e1,e2,m1,m2,y1,m3,y2,j1,j2,j3,j4,j5,j6,j7,j8,j9,j10,j11⟩:=t2r_ex hro
   obtain ⟨y,z1,z2,l1,l2,l3,l4⟩:=rr_ex r (Sha.at_ Sha.K i) (Sha.at_ (Sha.sched b) i) u4 e2 y2 f14 j11
   generalize Sha.at_ Sha.K i=ki at *
   generalize Sha.at_ (Sha.sched b) i=wi at *
   rw [l4]at Hr1
   have hR6:=uQ (turned_6_c r.e hro.e);have hR11:=uQ (turned_11_c r.e hro.e);have hR25:=uQ (turned_25_c r.e hro.e)
   have hR2:=uQ (turned_2_c r.a hro.a);have hR13:=uQ (turned_13_c r.a hro.a);have hR22:=uQ (turned_22_c r.a hro.a)
   rw [f1]at hR6;rw [f2]at hR11;rw [f3]at hR25;rw [j1]at hR2;rw [j2]at hR13;rw [j3]at hR22
   obtain ⟨ra,rb,rc,rd,re,rf,rg,rh⟩:=r
   dsimp only at f6 f7 f8 f10 j6 j7 j9 l3 Hr1 hR6 hR11 hR25 hR2 hR13 hR22 ⊢
   have c1:(i:Int)<64:=oQ
   have hwi:IntKind.i64.wrap ((i:Int)+1)=((i+1:Nat):Int):=by rw [IntWalk.i64_in _ oQ];omega
   have Hil:=uQ hil
   clear hil hi hro f1 f2 f3 f14 j1 j2 j3 j11 l4 g5 hr
   go_wp2_with fail
   refine (hR6.out _).mono ?_
   rintro ee w11 ⟨v,rfl,rfl,rfl⟩
   go_wp2_with fail
   refine (hR11.out _).mono ?_
   rintro ee w12 ⟨v,rfl,rfl,rfl⟩
   go_wp2_with fail
   refine (hR25.out _).mono ?_
   rintro ee w13 ⟨v,rfl,rfl,rfl⟩
   clear hR6 hR11 hR25
   go_wp2_with fail
   have h1:=hS.drew
   have hG:=HG.out _ h1
   clear hS f4 f5 f6 f7 f8 f9
   refine wpL_begin [13,14] (fun w'=>w'.cell? ⟨b5,i,none⟩=some (.int .u32 (ki:Nat))∧w'.cell? ⟨wb,wo+i,none⟩=some (.int .u32 (wi:Nat))) kRz ?_
   refine rP 0 ?_ (y:=mvQ)
   refine rP 1 ?_ (y:=mvQ)
   refine rP 2 ?_ (y:=bnQ)
   refine rP 3 ?_ (y:=mvQ)
   refine rP 4 ?_ (y:=bnQ)
   refine rP 5 ?_ (y:=mvQ)
   refine rP 6 ?_ (y:=ixQ)
   refine rt 7 (h:=?_)
   refine rP 8 ?_ (y:=bnQ)
   refine rP 9 ?_ (y:=mvQ)
   refine rP 10 ?_ (y:=mvQ)
   refine rP 11 ?_ (y:=ixQ)
   refine rt 12 (h:=?_)
   clear hG
   refine rP 13 ?_ (y:=bnQ)
   refine rP 14 ?_ (y:=asQ)
   refine wpL_done kRz ?_
   clear f10 f11 f12 f13
   go_wp2_with fail
   refine (hR2.out _).mono ?_
   rintro ee w14 ⟨v,rfl,rfl,rfl⟩
   go_wp2_with fail
   refine (hR13.out _).mono ?_
   rintro ee w15 ⟨v,rfl,rfl,rfl⟩
   go_wp2_with fail
   refine (hR22.out _).mono ?_
   rintro ee w16 ⟨v,rfl,rfl,rfl⟩
   clear hR2 hR13 hR22
   go_wp2_with fail
   go_roundg (64 - (i+1))
   case measure=>have:=Hil.out;omega
   case rel=>exact ⟨i+1,⟨z1,ra,rb,rc,z2,re,rf,rg⟩,rfl,Nat.succ_le_of_lt Hil.out,Hr1.out.symm,rfl,rfl,rfl,rfl,rfl,rfl,rfl,rfl,by first|rfl|go_num,h1⟩
end
end Go.Proofs.YtlimfgdbfadohaaGreatDoor
namespace Go.Sha
def outB (l:List Nat) (i k:Nat):Bs:=((l.take i).flatMap fun w=>bigL w 4)++(bigL (at_ l i) 4).take k++List.replicate (32 - (4 * i+k)) 0
theorem bigL_len (x n:Nat):(bigL x n).length=n:=by unfold bigL;rw [List.length_reverse,Frm.le_len]
theorem flat_len (l:List Nat):(l.flatMap fun w=>bigL w 4).length=4 * l.length:=by
 induction l with
 |nil=>rfl
 |cons a l ih=>rw [List.flatMap_cons,List.length_append,bigL_len,ih,List.length_cons];omega
theorem outB_len {l:List Nat} (hl:l.length=8){i k:Nat} (hi:i<8) (hk:k≤4):(outB l i k).length=32:=by
 unfold outB
 rw [List.length_append,List.length_append,flat_len,List.length_take,List.length_take,bigL_len,List.length_replicate];omega
theorem outB_zero (l:List Nat):outB l 0 0=Frm.zero32:=rfl
theorem outB_next {l:List Nat} (hl:l.length=8){i:Nat} (hi:i<8):outB l i 4=outB l (i+1) 0:=by
 have hlt:i<l.length:=oQ
 have e1:(bigL (at_ l i) 4).take 4=bigL (at_ l i) 4:=List.take_of_length_le (by rw [bigL_len];exact Nat.le_refl _)
 have e2:at_ l i=l[i]:=by
  unfold at_
  rw [List.getD_eq_getElem?_getD,List.getElem?_eq_getElem hlt];rfl
 unfold outB
 rw [e1,List.take_zero,List.append_nil,List.take_succ_eq_append_getElem hlt,List.flatMap_append,List.flatMap_cons,List.flatMap_nil,List.append_nil,e2]
 rfl
theorem outB_all {l:List Nat} (hl:l.length=8):outB l 8 0=l.flatMap fun w=>bigL w 4:=by
 unfold outB
 rw [List.take_of_length_le oQ,List.take_zero,List.append_nil,show 32 - (4 * 8+0)=0 from rfl,List.replicate_zero,List.append_nil]
theorem outB_step {l:List Nat} (hl:l.length=8){i k:Nat} (hi:i<8) (hk:k<4):(outB l i k).set (4 * i+k) ((bigL (at_ l i) 4).getD k 0)=outB l i (k+1):=by
 have hb:=bigL_len (at_ l i) 4
 have hf:((l.take i).flatMap fun w=>bigL w 4).length=4 * i:=by rw [flat_len,List.length_take];omega
 have ht:((bigL (at_ l i) 4).take k).length=k:=by rw [List.length_take];omega
 unfold outB
 rw [List.set_append_right _ _ (by rw [List.length_append,hf,ht];exact Nat.le_refl _),List.length_append,hf,ht,Nat.sub_self]
 rw [show 32 - (4 * i+k)=(32 - (4 * i+(k+1)))+1 by omega,List.replicate_succ,List.set_cons_zero,List.take_succ_eq_append_getElem oQ,List.getD_eq_getElem?_getD,List.getElem?_eq_getElem oQ]
 simp only [List.append_assoc,List.cons_append,List.nil_append,Option.getD_some]
end Go.Sha
namespace Go.Proofs.YtlimfgdbfadohaaGreatDoor
open Go Go.Sl Go.Med Go.MapKept Go.RowKit
section
variable {w0 w:World}{F:List HProp}{bv:Value}{b:Frm.Bs}
theorem zID32:zeroB Tryz.prog 30=some (.agg (bys Frm.zero32).toArray):=by kernel_rfl
theorem sizeU8b (w:World):(sizeOf 5).run Tryz.prog w = .ok 1 w:=by kernel_rfl
theorem at_slc8 {P:Program}{ops:Array Oper}{rest:List Oper}{a:Act}{Q:Exit→Act→World→Prop}{dst:Option Tmp}{t ty:TypeId}{pos:String}{after:Array Edge}{n:Nat}{xs:Array (Nat×Operand)} (h:Stop (wpList P ops Q (⟨dst,.buildSlice ty n xs,t,pos,after,none⟩::rest) a w)):wpList P ops Q (⟨dst,.buildSlice ty n xs,t,pos,after,none⟩::rest) a w:=h.out
theorem bys_set {l:Frm.Bs}{i:Nat}{x:UInt8}:putsAt (bys l).toArray i [.int .u8 (x.toNat:Int)]=(bys (l.set i x)).toArray:=by
 apply Array.toList_inj.1
 show ((bys l).toArray.setIfInBounds i _).toList=_
 rw [Array.toList_setIfInBounds,List.toList_toArray,List.toList_toArray]
 unfold bys
 rw [List.map_set]
set_option maxRecDepth 20000 in
theorem rsha_c (hl:b.length≤250) (hr:RS w0 F bv b) (h:Sat w0 w F) :
  Calls Tryz.prog 10 #[bv] w (Rtn fun v w'=>v = .agg (bys (Sha.sum b)).toArray∧Sat w0 w' F):=by
 have Hl:=uQ hl
 have hplen:=Sha.padR_len b
 have hpb:(Sha.padR b).length≤1000:=by
  unfold Sha.padR
  simp only [List.length_append,List.length_replicate,List.length_singleton,Sha.bigL_len];omega
 have Hsum:=uQ (Sha.sum_ref b)
 have Hpd:=uQ (fun (w':World) (R:List HProp) (hs:RS w0 R bv b) (hw:Sat w0 w' R)=>rpad_c oQ hs hw)
 obtain ⟨ba,bc,rfl,y1,y2⟩:=hr.len h
 generalize Sha.padR b=p at *
 obtain ⟨n,hn⟩:∃ n,p.length / 64=n:=⟨_,rfl⟩
 rw [hn]at hplen Hsum
 have Hp:=uQ (And.intro hplen hpb);have Hr:=uQ hr
 clear hl hr y1 y2 hplen hpb hn
 go_enter Tryz.func10,Tryz.ntmps10
 go_wp2_with (with_reducible apply at_alloc)
 refine ⟨wl_alloc zID32 h rfl ?_⟩
 intro b2 w2 h2
 replace h2:Sat w0 w2 (pt b2 (.cells (bys Frm.zero32).toArray 30 (0,0))::F):=h2
 clear h
 go_wp2_with fail
 refine (Hpd.out _ _ (Hr.out.more sbD) h2).mono ?_
 rintro ee w3 ⟨v,rfl,h3⟩
 obtain ⟨pa,pn,pc,rfl,x1,x2,x3⟩:=bsl_cap' h3
 subst x3
 have Hpc:=uQ x1
 clear h2 Hpd x1 x2 Hr
 go_wp2_with ((with_reducible refine at_slc8 ⟨?_⟩);refine wl_slc (by simp only [List.map_toArray,List.map_cons,List.map_nil];rfl) (run_sl8 1779033703 3144134277 1013904242 2773480762 1359893119 2600822924 528734635 1541459225) h3 ?_;intro bN w4 h4)
 replace h4:Sat w0 w4 (wsl (.slice (some ⟨bN,0,none⟩) 8 8) Sha.begin.l::bsl (.slice pa p.length pc) p::pt b2 (.cells (bys Frm.zero32).toArray 30 (0,0))::F):=st8w_wsl Sha.begin h4
 clear h3
 go_loopg [4,5] n (fun gg sq aq wr=>∃ (j at_:Nat) (s:Sha.St) (sv:Value),gg=n - j∧j≤n∧at_=64 * j∧aq = .int .i64 at_∧sv=sq∧s.Ok∧(Sha.blocks n Sha.begin p).1=(Sha.blocks (n - j) s (p.drop (64 * j))).1∧Sat w0 wr (wsl sv s.l::bsl (.slice pa p.length pc) p::pt b2 (.cells (bys Frm.zero32).toArray 30 (0,0))::F))
 case atStart=>exact ⟨0,0,Sha.begin,_,rfl,Nat.zero_le _,rfl,rfl,rfl,Sha.begin_ok,rfl,h4⟩
 case round=>
  obtain ⟨j,at_,s,sv,rfl,hj,hat,rfl,rfl,hok,heq,hS⟩:=hrel
  clear h4
  obtain ⟨p1,p2⟩:=Hp.out
  obtain ⟨N,hN⟩:∃ N,p.length=N:=⟨_,rfl⟩
  by_cases hjn:j<n
  ·as_aux_lemma=>
    have c1:(at_:Int)<(p.length:Int):=oQ
    have c1n:at_<p.length:=oQ
    obtain ⟨hi64,hh⟩:∃ x,at_+64=x:=⟨_,rfl⟩
    have e1:IntKind.i64.wrap ((at_:Int)+64)=(hi64:Int):=by rw [IntWalk.i64_in _ oQ];omega
    have hsl:∀ w,(Instr.sliceAt 27 (.slice pa p.length pc) (some (.int .i64 at_)) (some (.int .i64 hi64)) none).run Tryz.prog w = .ok (sliced pa at_ hi64 pc 1) w:=fun w=>run_slLH oQ (by have:=Hpc.out;omega) w
    have hrm:=RS.mid (l:=at_) (h:=hi64) (RS.of_bsl hS.pick1) oQ oQ
    rw [show hi64 - at_=64 by omega]at hrm
    obtain ⟨ta,tc,hsd⟩:∃ ta tc,sliced pa at_ hi64 pc 1 = .slice ta 64 tc:=⟨_,_,by unfold sliced;rw [show hi64 - at_=64 by omega]⟩
    rw [hsd]at hrm
    simp only [hsd]at hsl
    have hbl:((p.drop at_).take 64).length=64:=by rw [List.length_take,List.length_drop];omega
    have hsp:=spread_c (b:=(p.drop at_).take 64) hbl (hrm.more sbD) hS
    have Heq:=uQ (show (Sha.blocks n Sha.begin p).1=(Sha.blocks (n - (j+1)) (Sha.take s ((p.drop at_).take 64)) (p.drop (64 * (j+1)))).1 by
     rw [heq,show n - j=(n - (j+1))+1 by omega,Sha.blocks_succ (by rw [List.length_drop];omega),List.drop_drop,← hat,show 64 * (j+1)=at_+64 by omega])
    have Hok:=uQ hok
    have Hj:=uQ (And.intro hjn (show hi64=64 * (j+1) by omega))
    clear heq hbl hrm hsd hok hat hh p1 p2 hj hjn hN
    go_wp2_with ((with_reducible refine at_slice2 ⟨?_⟩);refine wl_slice2 rFz rFz rFz hsl ?_)
    refine hsp.mono ?_
    rintro ee w5 ⟨v,rfl,h5⟩
    have hrd:=rounds_c (b:=(p.drop at_).take 64) Hok.out (h5.sb:Sat w0 w5 (wsl sv s.l::wsl v (Sha.sched ((p.drop at_).take 64))::bsl (.slice pa p.length pc) p::pt b2 (.cells (bys Frm.zero32).toArray 30 (0,0))::F))
    clear hsp hS h5 hsl
    go_wp2_with fail
    refine hrd.mono ?_
    rintro ee w6 ⟨v,rfl,h6⟩
    clear hrd
    go_wp2_with fail
    go_roundg (n - (j+1))
    case measure=>have:=Hj.out;omega
    case rel=>exact ⟨j+1,hi64,_,_,rfl,Nat.succ_le_of_lt Hj.out.1,Hj.out.2,by first|rfl|go_num,rfl,Sha.take_ok _ _,Heq.out,h6⟩
  as_aux_lemma=>
   obtain rfl:j=n:=by omega
   have c1:¬ (at_:Int)<(p.length:Int):=oQ
   have c1n:¬ at_<p.length:=oQ
   have Hs:=uQ (show Sha.sum b=s.l.flatMap fun w=>Sha.bigL w 4 by rw [Hsum.out,heq,Nat.sub_self];rfl)
   have hl8:s.l.length=8:=rfl
   have hal:Sha.AllW s.l:=by
    intro x hx
    simp only [Sha.St.l,List.mem_cons,List.not_mem_nil,or_false]at hx
    rcases hx with rfl|rfl|rfl|rfl|rfl|rfl|rfl|rfl
    ·exact hok.a
    ·exact hok.b
    ·exact hok.c
    ·exact hok.d
    ·exact hok.e
    ·exact hok.f
    ·exact hok.g
    ·exact hok.h
   generalize s.l=l at *
   have Hl8:=uQ hl8;have Hal:=uQ hal
   clear heq hok hat hj hjn p1 p2 hN hl8 hal
   have hS2:Sat w0 _ (wsl sv l::pt b2 (.cells (bys Frm.zero32).toArray 30 (0,0))::F):=hS.sb
   clear hS
   go_wp2_with (with_reducible apply at_alloc)
   refine ⟨wl_alloc zID32 hS2 rfl ?_⟩
   intro b6 w7 h7
   replace h7:Sat w0 w7 (pt b6 (.cells (bys (Sha.outB l 0 0)).toArray 30 (0,0))::wsl sv l::pt b2 (.cells (bys Frm.zero32).toArray 30 (0,0))::F):=by rw [Sha.outB_zero];exact h7
   clear hS2 c1 c1n
   go_wp2_with fail
   go_loopg [7] 8 (fun gg iq wr=>∃ i:Nat,gg=8 - i∧i≤8∧iq = .int .i64 i∧Sat w0 wr (pt b6 (.cells (bys (Sha.outB l i 0)).toArray 30 (0,0))::wsl sv l::pt b2 (.cells (bys Frm.zero32).toArray 30 (0,0))::F))
   case atStart=>exact ⟨0,rfl,Nat.zero_le _,rfl,h7⟩
   case round=>
    obtain ⟨i,rfl,hi,rfl,hT⟩:=hrel
    clear h7
    by_cases hil:i<8
    rotate_left
    focus
     obtain rfl:i=8:=by omega
     rw [Sha.outB_all Hl8.out,← Hs.out]at hT
     have hks:=sha_len b
     have Hsz:=uQ (show (bys (Sha.sum b)).toArray.size=32 by rw [List.size_toArray,bys_len,hks])
     have Hon:=uQ (show (bys (Sha.sum b)).toArray.toList.all (·.oneCell')=true by rw [List.all_eq_true];exact bys_one _)
     have hinf:(Tryz.prog.info? 30).map (·.size)=some (bys (Sha.sum b)).toArray.size:=by rw [Hsz.out];kernel_rfl
     obtain ⟨k,hk⟩:∃ k,Sha.sum b=k:=⟨_,rfl⟩
     rw [hk]at hT Hsz Hon hinf
     have HkE:=uQ hk
     clear hi hil hks hk
     go_wp2_with (first
      |((with_reducible refine at_load ⟨?_⟩);refine wl_loadA (cs:=(bys k).toArray) hT rFz pick0 Tryz.underlying30 rfl hinf ?_)
      |(with_reducible apply at_store))
     refine ⟨wl_storeA (bys k).toArray (hT.sb:Sat w0 _ (pt b2 (.cells (bys Frm.zero32).toArray 30 (0,0))::F)) rFz rFz (Hsz.out.trans rFz) upd0 hinf Hon.out ?_⟩
     intro w9 h9
     have hrc:=fun tmps hp=>res_cell (tmps:=tmps) (fn:=Tryz.f10) rfl h9 hp pick0 Tryz.underlying30 rfl hinf
     go_wp2_with fail
     refine ⟨rfl,_,hrc _ rFz,_,rfl,by rw [HkE.out],h9.drop⟩
    have ci:(i:Int)<8:=oQ
    have hwi:IntKind.i64.wrap ((i:Int)+1)=((i+1:Nat):Int):=by rw [IntWalk.i64_in _ oQ];omega
    obtain ⟨sa,sn,sc,rfl,hsn⟩:=wsl_sh hT.pick1
    rw [Hl8.out]at hsn
    subst hsn
    obtain ⟨sb,so,rfl,hcs⟩:=wsl_at hT.pick1 (i:=i) (by rw [Hl8.out];exact hil)
    have e1:=hcs _ hT.pick1 i (by rw [Hl8.out];exact hil)
    have hx:=Sha.at_lt Hal.out i
    obtain ⟨x,hxx⟩:∃ x,Sha.at_ l i=x:=⟨_,rfl⟩
    rw [hxx]at e1 hx
    have hwx:IntKind.u64.wrap (x:Int)=(x:Int):=by rw [IntKind.wrap_u64];omega
    have hpt:=rput_c x 4 oQ dCz dCz hT
    have Hi:=uQ hil;have Hxx:=uQ hxx
    clear hx hxx hil hi hcs
    go_wp2_with fail
    refine hpt.mono ?_
    rintro ee w8 ⟨v,rfl,h8,xa,xn,xc,rfl⟩
    obtain ⟨_,_,_,q0,x1,x2,x3⟩:=bsl_cap' h8
    cases q0
    rw [Frm.le_len]at x3
    subst x3
    clear hpt hT e1 hwx x1 x2
    go_wp2_with fail
    go_loopg [9] 4 (fun gg kq wr=>∃ k:Nat,gg=4 - k∧k≤4∧kq = .int .i64 k∧Sat w0 wr (bsl (.slice xa 4 xc) (Frm.le x 4)::pt b6 (.cells (bys (Sha.outB l i k)).toArray 30 (0,0))::wsl (.slice (some ⟨sb,so,none⟩) 8 sc) l::pt b2 (.cells (bys Frm.zero32).toArray 30 (0,0))::F))
    case atStart=>exact ⟨0,rfl,Nat.zero_le _,rfl,h8⟩
    case round=>
     obtain ⟨k,rfl,hk,rfl,hU⟩:=hrel
     clear h8
     by_cases hkl:k<4
     rotate_left
     focus
      obtain rfl:k=4:=by omega
      rw [Sha.outB_next Hl8.out Hi.out]at hU
      clear hk hkl
      go_wp2_with fail
      go_roundg (8 - (i+1))
      case measure=>have:=Hi.out;omega
      case rel=>exact ⟨i+1,rfl,Nat.succ_le_of_lt Hi.out,by first|rfl|go_num,hU.drop⟩
     have ck:(k:Int)<4:=oQ
     have hwk:IntKind.i64.wrap ((k:Int)+1)=((k+1:Nat):Int):=by rw [IntWalk.i64_in _ oQ];omega
     obtain ⟨r3,hr3⟩:∃ z,3 - k=z:=⟨_,rfl⟩
     have hw3:IntKind.i64.wrap (3 - (k:Int))=(r3:Int):=by rw [IntWalk.i64_in _ oQ];omega
     obtain ⟨i4,hi4⟩:∃ z,4 * i=z:=⟨_,rfl⟩
     have hil:=Hi.out
     have hw4:IntKind.i64.wrap (4 * (i:Int))=(i4:Int):=by rw [IntWalk.i64_in _ oQ];omega
     obtain ⟨ix,hix0⟩:∃ z,i4+k=z:=⟨_,rfl⟩
     have hw5:IntKind.i64.wrap ((i4:Int)+(k:Int))=(ix:Int):=by rw [IntWalk.i64_in _ oQ];omega
     have c3:(r3:Int)<4:=oQ
     have g1:(bys (Frm.le x 4))[r3]?=some (.int .u8 ((Frm.le x 4).getD r3 0).toNat):=bys_get.2 ⟨_,by rw [List.getD_eq_getElem?_getD,List.getElem?_eq_getElem (show r3<(Frm.le x 4).length by rw [Frm.le_len];omega)];rfl,rfl⟩
     obtain ⟨bk,off,rfl,hcs⟩:=rdsl_cells (Sat.rd hU) g1
     have e1:=hcs _ _ g1
     have hgd:(Frm.le x 4).getD r3 0=(Sha.bigL x 4).getD k 0:=by
      unfold Sha.bigL
      rw [List.getD_eq_getElem?_getD,List.getD_eq_getElem?_getD,List.getElem?_reverse (by rw [Frm.le_len];omega),Frm.le_len,← hr3]
     have Hst:=uQ (Sha.outB_step Hl8.out hil hkl)
     have Hoz:=uQ (Sha.outB_len Hl8.out hil hk)
     rw [Hxx.out,← hgd,hi4,hix0]at Hst
     generalize (Frm.le x 4).getD r3 0=y at *
     have hixa:=fun (w:World)=>run_ixa (P:=Tryz.prog) (k:= .i64) (b:=b6) Tryz.underlying30 sizeU8b (show ix<32 by omega) w
     have Hpu:=uQ (show putsAt (bys (Sha.outB l i k)).toArray ix [.int .u8 (y.toNat:Int)]=(bys (Sha.outB l i (k+1))).toArray by rw [bys_set,Hst.out])
     have Hle:=uQ (show ix+1≤(bys (Sha.outB l i k)).toArray.size by rw [List.size_toArray,bys_len,Hoz.out];omega)
     have Hk:=uQ hkl
     clear g1 hcs hgd hr3 hi4 hix0 hk hkl hil
     go_wp2_with (first
      |((with_reducible refine at_ixa ⟨?_⟩);refine wl_ixa rFz rFz hixa ?_)
      |(with_reducible apply at_store))
     refine ⟨wl_store (cs':=(bys (Sha.outB l i (k+1))).toArray) (hU.pick pick1) rFz evD Hpu.out upd0 Hle.out kRz rFz ?_⟩
     intro w10 h10
     clear hU e1 hixa
     go_wp2_with fail
     go_roundg (4 - (k+1))
     case measure=>have:=Hk.out;omega
     case rel=>exact ⟨k+1,rfl,Nat.succ_le_of_lt Hk.out,by first|rfl|go_num,h10.sb⟩
end
end Go.Proofs.YtlimfgdbfadohaaGreatDoor
