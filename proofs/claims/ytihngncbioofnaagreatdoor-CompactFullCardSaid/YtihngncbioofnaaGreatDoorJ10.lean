import Derived.Test.YtihngncbioofnaaGreatDoorJ9
set_option maxRecDepth 20000
set_option linter.unusedVariables false
set_option maxHeartbeats 128000000
namespace Go.Seg
open Go.ay
open Go.ah (Bs aG encs fH)
open Go.Rep
section
variable {K r E B n:Nat}{L:Log}{M:ay}{C C0:List (List aG)}{x:aG}
theorem HG.pop (h:HG K r E B n L M C) (hne:C≠[]):∃ s,L.l.getLast?=some s∧(L.remove M s.1).2=0∧HG (K+1) r E B n (L.remove M s.1).1.1 (L.remove M s.1).1.2 C.dropLast∧(L.remove M s.1).1.1.on=false∧(1≤L.fresh→(L.remove M s.1).1.1.fresh=L.fresh - 1)∧aC.Grown M (L.remove M s.1).1.2∧(L.remove M s.1).1.1.limit=L.limit:=by
 have hpos:0<C.length:=amK.2 hne;have hlen:=h.len;have hcnt:=h.count;obtain ⟨c,hc⟩:∃ c,C.length=c+1:=⟨C.length - 1,by omega⟩;have hce:C[c]?=some (C[c]'oQ):=aaI oQ;have hat:=h.at_ c _ hce;generalize C[c]'oQ=es at *
 refine ⟨((c:Int),8+((encs es).length:Int)),by rw [adv,show L.l.length - 1=c by omega];exact hat,?_⟩;simp only;have hk:L.at (c:Int)=some c:=h.at_k hce;obtain ⟨i,hi⟩:=h.keeps.has _ (abV hat);simp only at hi;have hcb:c<1048576:=by have:=h.keeps.log.nums _ (abV hat);simp only at this;omega
 have hr:=Gp h.keeps.calm.quiet hi;obtain ⟨a1,a2,a3,a4⟩:=aC.J3 h.keeps.calm hi;have OO:L.remove M (c:Int)=((L.without c,(M.remove (name (c:Int))).1),0):=by
  unfold Log.remove;rw [hk];simp only;rw [acr a1]
 have hok:=h.keeps.log.remove M (c:Int);have hcm:=h.keeps.calm.remove (name (c:Int));rw [OO]at hok ⊢;simp only at hok ⊢;have hl2:(L.without c).l=L.l.take c:=by
  unfold Log.without;simp only;rw [anK,adp oQ,acM]
 have hC2:C.dropLast=C.take c:=by rw [List.dropLast_eq_take,show C.length - 1=c by omega]
 have FB:∀ k:Nat,k<c→name (k:Int)≠name (c:Int):=fun k hkc e=>by
  have:=AU oQ oQ oQ oQ e;omega
 have hget:∀ k:Nat,k<c→∀ j,bP (M.remove (name (c:Int))).1.now (name (k:Int))=some j↔bP M.now (name (k:Int))=some j:=fun k hkc j=>by rw [a2,AX (FB k hkc)]
 have Xt:∀ (k:Nat) (fs:List aG),C.dropLast[k]?=some fs→k<c∧C[k]?=some fs:=fun k fs hf=>by
  rw [hC2,adC]at hf;split at hf
  ·exact ⟨by omega,hf⟩
  ·cases hf
 refine ⟨trivial,⟨⟨hok,hcm,fun t ht=>?_⟩,?_,fun k fs hf=>?_,fun k fs hf=>?_,fun fs hf=>h.good fs (List.dropLast_subset _ hf),?_,?_,?_,fun k j hkk hj=>?_⟩,?_,fun hf=>?_,?_,rfl⟩
 ·rw [hl2]at ht;obtain ⟨q,hq⟩:=an8 ht;rw [adC]at hq;split at hq
  ·rename_i hqc;obtain ⟨j,hj⟩:=h.keeps.has t (abV hq);have XF:=h.at_ q _ (aaI (show q<C.length by omega));rw [hq]at XF;cases XF;exact ⟨j,(hget q oQ j).2 hj⟩
  ·cases hq
 ·rw [hl2,acA,ahJ];omega
 ·obtain ⟨q1,q2⟩:=Xt k fs hf;rw [hl2,adC,acr q1];exact h.at_ k fs q2
 ·obtain ⟨q1,q2⟩:=Xt k fs hf;rw [a3 _ (FB k q1)];exact h.file k fs q2
 ·rw [ahJ];omega
 ·exact acz a4 h.used
 ·rw [a2];exact acz (AV _ _) h.names
 ·rw [ahJ];rw [a2]at hj;by_cases e:k=c
  ·exfalso;rw [e]at hj;have:=(acY.1 (jF hj)).2;simp [bne,nD]at this
  ·rw [AX (fun q=>e (by have:=AU oQ oQ oQ oQ q;omega))]at hj;have:=h.cover k j hkk hj;omega
 ·unfold Log.without;simp only;rw [acr oQ]
 ·unfold Log.without;simp only;rw [acr oQ]
 ·exact fun p hp=> .inl (aC.J5 hp)
structure qH (L:Log) (C C0:List (List aG)):Prop where
 base:Base C0 L.on C
 fresh:L.fresh=(C.length:Int) - C0.length
theorem HG.back:∀ (j:Nat){K:Nat}{L:Log}{M:ay}{C:List (List aG)},HG K r E B n L M C→j≤C.length→L.fresh=j →
  (L.back j M).2=0∧HG (K+j) r E B n (L.back j M).1.1 (L.back j M).1.2 (C.take (C.length - j))∧(L.back j M).1.1.on=false∧(L.back j M).1.1.fresh=0∧aC.Grown M (L.back j M).1.2∧(L.back j M).1.1.limit=L.limit
 |0,K,L,M,C,h,_,hf=>by
  unfold Log.back;refine ⟨rfl,?_,rfl,hf,aC.Grown.refl M,rfl⟩;rw [Nat.sub_zero,adk];exact ⟨⟨h.keeps.log.abd,h.keeps.calm,h.keeps.has⟩,h.len,h.at_,h.file,h.good,h.count,h.used,h.names,h.cover⟩
 |j+1,K,L,M,C,h,hj,hf=>by
  have hne:C≠[]:=by intro e;rw [e]at hj;simp at hj
  obtain ⟨s,hs,p1,p2,p3,p4,p5,p6⟩:=h.pop hne;unfold Log.back;rw [hs];simp only;rw [acr p1];have hl:=ahJ (xs:=C);obtain ⟨b1,b2,b3,b4,b5,b6⟩:=HG.back j p2 oQ (by rw [p4 oQ];omega);refine ⟨b1,?_,b3,b4,p5.trans b5,b6.trans p6⟩;rw [show K+(j+1)=K+1+j by omega];have e:C.dropLast.take (C.dropLast.length - j)=C.take (C.length - (j+1)):=by
   rw [hl,List.dropLast_eq_take,List.take_take]
   congr 1
   omega
  rw [← e];exact b2
theorem Rp.rollback (h:Rp K r E B n L M C) (hf:qH L C C0):(L.rollback M).2=0∧Rp (K+n) r E B n (L.rollback M).1.1 (L.rollback M).1.2 C0∧qH (L.rollback M).1.1 C0 C0∧(L.rollback M).1.1.limit=L.limit:=by
 have hle:=hf.base.le;have hcn:=h.hg.count;have hfr:=hf.fresh;have e:L.fresh.toNat=C.length - C0.length:=oQ;obtain ⟨b1,b2,b3,b4,b5,b6⟩:=HG.back (C.length - C0.length) h.hg oQ oQ;have ht:C.take (C.length - (C.length - C0.length))=C0:=by rw [show C.length - (C.length - C0.length)=C0.length by omega];exact hf.base.pre
 rw [ht]at b2;unfold Log.rollback;rw [e];have hfew:C0.flatten.length≤n:=by
  have e1:=adu (fun z:List (List aG)=>z.flatten.length) (adB C0.length C);simp only [List.flatten_append,aaK]at e1;rw [hf.base.pre]at e1;have:=h.few;omega
 refine ⟨b1,(h.grown b2 b5 hfew fun e he=>h.thin e (by rw [← adB C0.length C,List.flatten_append,hf.base.pre];exact List.mem_append_left _ he)).mono oQ (abL _) (abL _) (abL _),⟨by rw [b3];exact Base.start C0,by rw [b4];omega⟩,b6⟩
theorem qH.start {L:Log} (ho:L.on=false) (hf:L.fresh=0):qH L C C:=⟨by rw [ho];exact Base.start C,by rw [hf];omega⟩
theorem Keeps.U0 (h:Keeps K r L M) (h0:(ah.encode x).2=0) (hz:(L.append M x).2.2=0):(L.append M x).1.1.on=true∧(L.append M x).1.1.fresh=L.fresh+(if L.fits (ah.encode x).1.length=true then 0 else 1):=by
 cases hfi:L.fits (ah.encode x).1.length with
 |true=>
  rw [Log.zL h0 hfi]at hz ⊢;have hon:=xU hfi;obtain ⟨s,hl⟩:=h.log.last hon;unfold Log.grow at hz ⊢;rw [hl]at hz ⊢;simp only at hz ⊢;split at hz
  ·rename_i g;rw [acr g];exact ⟨hon,by simp⟩
  ·rename_i g;exact absurd hz g
 |false=>
  rw [Log.xF h0 hfi]at hz ⊢;obtain ⟨_,s2,_,s4,_⟩:=h.shut;unfold Log.begin at hz ⊢;rw [acr s2]at hz ⊢;generalize (L.shut M).1.1=L1 at *
  generalize (L.shut M).1.2=M1 at *
  unfold Log.jw at hz ⊢;by_cases g2:1048576≤L1.next
  ·rw [acr g2]at hz;exact absurd (show (16:Int)=0 from hz) aN
  rw [abA g2]at hz ⊢;by_cases g3:(M1.create (name L1.next)).2=0;rotate_left
  ·rw [acr g3]at hz;exact absurd hz g3
  rw [abA (fun q=>q g3)]at hz ⊢;by_cases g4:((M1.create (name L1.next)).1.append (name L1.next) (mag++(ah.encode x).1)).2=0
  ·rw [acr g4];exact ⟨rfl,by simp only;rw [s4];simp⟩
  rw [abA g4]at hz;split at hz
  ·simp only at hz;split at hz
   ·exact absurd hz aN
   ·rename_i g5;exact absurd hz g5
  ·exact absurd hz g4
theorem Rp.pJ (h:Rp K r E B n L M C) (hf:qH L C C0) (h0:(ah.encode x).2=0) (hz:(L.append M x).2.2=0):qH (L.append M x).1.1 (put C (L.fits (ah.encode x).1.length) x) C0∧(L.append M x).1.1.on=true:=by
 have key:=h.hg.keeps.U0 h0 hz;refine ⟨⟨?_,?_⟩,key.1⟩
 ·exact hf.base.put xU x
 ·rw [key.2,hf.fresh];have hne:=h.hg.Aa (k:=(ah.encode x).1.length);unfold put;split
  ·have:=amK.2 (hne aQ);rw [aaK,ahJ,ac7];omega
  ·rw [aaK,ac7];omega
theorem ad3 {L:Log}{M:ay}{x:aG} (h0:(ah.encode x).2=0) (hz:(L.append M x).2.2≠0) (ho:(L.append M x).1.1.on=true):L.on=true:=by
 cases hf:L.fits (ah.encode x).1.length with
 |true=>exact Seg.xU hf
 |false=>
  rw [Log.xF h0 hf]at hz ho;have hs:(L.shut M).1.1.on=true→L.on=true:=by
   unfold Log.shut;split
   ·exact fun e=>e
   ·split
    ·rename_i q;exact fun _=>q
    ·exact fun e=>e
  unfold Log.begin at hz ho;split at ho
  ·rename_i e2;rw [acr e2]at hz;unfold Log.jw at hz ho;split at ho;· exact hs ho
   rename_i g1;rw [abA g1]at hz;split at ho;· exact hs ho
   rename_i g2;rw [abA g2]at hz;split at ho
   ·rename_i g3;rw [acr g3]at hz;exact absurd rfl hz
   split at ho <;> exact hs ho
  ·exact hs ho
theorem Rp.Oc (h:Rp K r E B n L M C) (hf:qH L C C0) (hk:x.key.length=32) (hz:(L.append M x).2.2≠0):qH (L.append M x).1.1 C C0:=by
 obtain ⟨k1,k2⟩:=h.hg.keeps.append x hk;obtain ⟨k3,k4,k5,k6⟩:=k2 hz;refine ⟨⟨hf.base.pre,fun ho=>?_⟩,by rw [k4];exact hf.fresh⟩;by_cases h0:(ah.encode x).2=0
 ·exact hf.base.gt (ad3 h0 hz ho)
 ·rw [Log.IE h0]at ho;exact hf.base.gt ho
end
def Apart (M M':ay):Prop:=∀ t,(∀ k:Int,t≠name k)→M'.all t=M.all t
section
variable {K r E B n:Nat}{L:Log}{M M' M2:ay}{C C0:List (List aG)}{x:aG}
theorem Apart.refl (M:ay):Apart M M:=fun _ _=>rfl
theorem Apart.trans (h:Apart M M') (k:Apart M' M2):Apart M M2:=fun t ht=>(k t ht).trans (h t ht)
theorem UZ (h:Calm K r M) (k:Int) (b:Bs):Apart M (M.append (name k) b).1:=fun t ht=>by
 rcases vP h.quiet (name k) b with ⟨_,q⟩|⟨j,q1,⟨q2,q3⟩|⟨q2,q3⟩⟩
 ·rw [q]
 ·rw [q3]
 ·exact (II h q1 b oQ).2.2.2.2 t (ht k)
theorem ae2 (h:Calm K r M) (k:Int):Apart M (M.create (name k)).1:=fun t ht=>by
 rcases ER h.quiet (name k) with ⟨_,_,q⟩|⟨q1,q2,q3,_⟩
 ·rw [q]
 ·exact (I4 h q1 q2 q3).2.2.2.2 t (ht k)
theorem Qw (h:Calm K r M) (k:Int):Apart M (M.remove (name k)).1:=fun t ht=>by
 cases hi:bP M.now (name k) with
 |none=>
  have:M.remove (name k)=(M,9):=by unfold ay.remove;rw [h.quiet.off,hi];rfl
  rw [this]
 |some i=>exact (aC.J3 h hi).2.2.1 t (ht k)
theorem al3 (h:Calm K r M) (s:ByteArray):Apart M (M.sync s).1:=fun t _=>(KL h.ok h.quiet s).all t
theorem alz (h:Calm K r M) (L:Log):Apart M (L.shut M).1.2∧Calm (K+1) r (L.shut M).1.2:=by
 unfold Log.shut;split;· exact ⟨Apart.refl M,h.mono oQ⟩
 split
 ·split <;> exact ⟨al3 h _,(h.sync _).mono oQ⟩
 ·exact ⟨Apart.refl M,h.mono oQ⟩
theorem aem (h:Calm K r M) (L:Log) (b:Bs):Apart M (L.jw M b).1.2:=by
 have hc:=ae2 h L.next;have h1:=h.create (name L.next);have ha:=hc.trans (UZ h1 L.next (mag++b));have h2:=h1.append (name L.next) (mag++b);unfold Log.jw;split;· exact Apart.refl M
 split;· exact hc
 split;· exact ha
 split
 ·exact ha.trans (Qw h2 _)
 ·exact ha
theorem ahU (h:Calm K r M) (L:Log) (x:aG):Apart M (L.append M x).1.2:=by
 unfold Log.append;split;· exact Apart.refl M
 split
 ·unfold Log.grow;split
  ·exact Apart.refl M
  ·split <;> exact UZ h _ _
 ·obtain ⟨s1,s2⟩:=alz h L;unfold Log.begin;split
  ·exact s1.trans (aem s2 _ _)
  ·exact s1
theorem Ve:∀ (j:Nat){K:Nat}{L:Log}{M:ay}{C:List (List aG)},HG K r E B n L M C→j≤C.length→Apart M (L.back j M).1.2
 |0,K,L,M,C,h,_=>Apart.refl M
 |j+1,K,L,M,C,h,hj=>by
  have hne:C≠[]:=by intro e;rw [e]at hj;simp at hj
  obtain ⟨s,hs,p1,p2,_⟩:=h.pop hne;unfold Log.back;rw [hs];simp only;rw [acr p1];have hl:=ahJ (xs:=C);refine Apart.trans ?_ (Ve j p2 oQ);unfold Log.remove;split
  ·exact Apart.refl M
  ·split <;> exact Qw h.keeps.calm _
theorem aj2 (h:HG K r E B n L M C) (hf:qH L C C0):Apart M (L.rollback M).1.2:=by
 have hfr:=hf.fresh;have hle:=hf.base.le;exact Ve _ h oQ
theorem aj3 (h:HG K r E B n L M C) (hf:qH L C C0):aC.Grown M (L.rollback M).1.2:=by
 have hle:=hf.base.le;have hfr:=hf.fresh;have e:L.fresh.toNat=C.length - C0.length:=oQ;obtain ⟨_,_,_,_,b5,_⟩:=HG.back (C.length - C0.length) h oQ oQ;unfold Log.rollback;rw [e];exact b5
end
structure HF (M:ay) (N:Int) (pl:List (Bs×aU)) (us:List Use):Prop where
 one:M.all (aC.name aC.idx N)=(dF.book Xx.sum dF.AO true (pl.map lF),0)
 two:M.all (aC.name aC.use N)=(dF.book Xx.sum dF.AP false (us.map lH),0)
 num:∀ p∈M.now,(aC.number p.1).2=true→(aC.number p.1).1=N
def NF (M:ay):Prop:=∀ p∈M.now,(aC.number p.1).2=false
def DV (C:List (List aG)):List Use:=(List.range' 0 C.length).map fun j:Nat=>⟨(j:Int),((mag++encs (C.getD j [])).length:Int),0⟩
structure EH (C0:List (List aG)) (N:Int) (us:List Use) (pl:List (Bs×aU)):Prop where
 last:N=(C0.length:Int) - 1
 kv:∃ kv,Tab.Lists (ledger (dW 0 C0)) kv∧(∀ q∈kv,q.1.length=32)∧us=(DV C0).map (upd kv)∧pl=puts kv
 ends:C0=[]∨∃ es,C0[C0.length - 1]?=some es∧lS es=true
structure oD (r0 E n B0:Nat) (M:ay) (C0:List (List aG)) (N:Int) (us:List Use):Prop where
 used:B0≤E * (20+28 * n)
 ex:∃ pl,EH C0 N us pl∧(300000≤r0→n≤45→E≤90→(C0=[]→NF M)∧(C0≠[]→HF M N pl us))
section
variable {K r E B n r0 B0:Nat}{L:Log}{M M':ay}{C C0:List (List aG)}{N:Int}{us:List Use}{pl:List (Bs×aU)}
theorem HF.apart (h:HF M N pl us) (a:Apart M M') (g:aC.Grown M M') (h1:0≤N) (h2:N<1048576):HF M' N pl us:=
 ⟨(a _ fun k e=>aC.Ky k N h1 h2 e.symm).trans h.one,(a _ fun k e=>aC.Kz k N h1 h2 e.symm).trans h.two,fun p hp hn=>by
  rcases g p hp with q|⟨k,q⟩
  ·exact h.num p q hn
  ·rw [q,aC.yF]at hn;cases hn⟩
theorem NF.apart (h:NF M) (g:aC.Grown M M'):NF M':=fun p hp=>by
 rcases g p hp with q|⟨k,q⟩
 ·exact h p q
 ·rw [q,aC.yF]
theorem oD.mono (h:oD r0 E n B0 M C0 N us){n' E':Nat} (hn:n≤n') (hE:E≤E'):oD r0 E' n' B0 M C0 N us:=by
 obtain ⟨u,pl,s,q⟩:=h;exact ⟨acz u (anv hE oQ),pl,s,fun a b c=>q a oQ oQ⟩
theorem oD.apart (h:oD r0 E n B0 M C0 N us) (hc:C0.length≤1048576) (a:Apart M M') (g:aC.Grown M M'){n':Nat} (hn:n≤n'):oD r0 E n' B0 M' C0 N us:=by
 obtain ⟨u,pl,s,q⟩:=h.mono hn (abL E);refine ⟨u,pl,s,fun a1 a2 a3=>⟨fun e=>((q a1 a2 a3).1 e).apart g,fun e=>((q a1 a2 a3).2 e).apart a g ?_ ?_⟩⟩
 ·have:=amK.2 e;have:=s.last;omega
 ·have:=s.last;omega
theorem oD.start (hr:M.now=[]):oD r0 E n 0 M [] (-1) []:=
 ⟨acV _,[],⟨rfl,⟨[],⟨List.Pairwise.nil,fun k v=>⟨fun h=>(by cases h),fun h=>(by cases h)⟩⟩,fun q hq=>(by cases hq),rfl,rfl⟩,.inl rfl⟩,fun _ _ _=>⟨fun _ p hp=>(by rw [hr]at hp;cases hp),fun e=>absurd rfl e⟩⟩
theorem HG.uses (h:HG K r E B n L M C):jC (fun s=>L.bytes M s) L.aF=DV C:=by
 rw [h.ns];unfold jC DV;rw [aee];refine amJ fun j hj=>?_;have hl:j<C.length:=by have:=List.mem_range'.1 hj;omega
 have e:=h.bytes (aaI hl);simp only [Function.comp_apply,e];rw [acG,aaI hl]
 rfl
end
end Go.Seg
namespace Go.aO
open Go.ah (Bs dA aG dN encs fH)
open Go.Seg (aU)
open Go.Rep
def pay:List dA→Int
 |[]=>0
 |f::l=>(if f.e.tag=2 then 0 else (f.size:Int))+pay l
theorem Qe:∀ (l:List dA) (f:dA),pay (l++[f])=pay l+(if f.e.tag=2 then 0 else (f.size:Int))
 |[],f=>by simp [pay]
 |g::l,f=>by
  have:=Qe l f;rw [adA];unfold pay;omega
abbrev Kv:=List Int×aU
def iG (m:Bs→Option Kv) (k:Bs):Kv:=(m k).getD ([],aU.zero)
def oN (c:List Int) (s t:Int):List Int:=if t=0∧c.getLast?≠some s then c++[s] else c
def Gy (m:Bs→Option Kv) (r:Row):Bs→Option Kv:=Tab.put m (fB r) (oN (iG m (fB r)).1 r.1 (dJ r),iH r)
def tV (m:Bs→Option Kv) (r:Row):Bs→Option Kv:=if dJ r=2 then m else Gy m r
structure Plan where
 last:Int
 aF:List (Int×List dA)
 keys:Bs→Option Kv
 index:Bs→Option aU
def tH (a b:aU):Bool:=a.seg==b.seg && (a.at_==b.at_ && a.size==b.size)
def counts (P:Plan) (gs:List Int) (s:Int) (f:dA):Bool:=
 if f.e.tag=2 then false
 else if f.e.tag=0 then match P.index f.e.key with
  |some p=>tH p ⟨s,f.at_,f.size⟩
  |none=>false
 else tH (iG P.keys f.e.key).2 ⟨s,f.at_,f.size⟩ && (iG P.keys f.e.key).1.any fun t=>decide (t<s) && !gs.contains t
def mQ (P:Plan) (gs:List Int) (s:Int):List dA→Int
 |[]=>0
 |f::l=>(if counts P gs s f=true then (f.size:Int) else 0)+mQ P gs s l
theorem YT (P:Plan) (gs:List Int) (s:Int):∀ (l:List dA) (f:dA),mQ P gs s (l++[f])=mQ P gs s l+(if counts P gs s f=true then (f.size:Int) else 0)
 |[],f=>by simp [mQ]
 |g::l,f=>by
  have:=YT P gs s l f;rw [adA];unfold mQ;omega
def sparse (P:Plan) (gs:List Int) (pc:Int) (x:Int×List dA):Bool:=
 if pay x.2=0 then decide (0<pc) && (decide (x.1≠P.last) || decide (0<gs.length)) else decide (100 * mQ P gs x.1 x.2<pc * pay x.2)
def nextL (P:Plan) (gs:List Int) (pc:Int) (l:List (Int×List dA)):List Int:=(l.filter fun x => !gs.contains x.1 && sparse P gs pc x).map (·.1)
theorem Zo (P:Plan) (gs:List Int) (pc:Int) (l:List (Int×List dA)) (x:Int×List dA):nextL P gs pc (l++[x])=nextL P gs pc l++(if (!gs.contains x.1 && sparse P gs pc x)=true then [x.1] else []):=by
 unfold nextL;rw [anS,acI]
 congr 1
 rw [aie];split <;> rfl
def choose (P:Plan) (pc:Int):Nat→List Int→List Int
 |0,gs=>gs
 |n+1,gs=>if nextL P gs pc P.aF=[] then gs else choose P pc n (gs++nextL P gs pc P.aF)
def jZ (gs:List Int) (l:List (Int×List dA)):List Int:=(l.filter fun x=>gs.contains x.1).map (·.1)
theorem Xj (gs:List Int) (l:List (Int×List dA)) (x:Int×List dA):jZ gs (l++[x])=jZ gs l++(if gs.contains x.1=true then [x.1] else []):=by
 unfold jZ;rw [anS,acI]
 congr 1
 rw [aie];split <;> rfl
end Go.aO
namespace Go.Rep
structure iw where
 a:Option Addr
 n:Nat
 c:Nat
 last:Seg.aU
end Go.Rep
namespace Go.Proofs.YtihngncbioofnaaGreatDoor
open Go Go.Sl Go.ay Go.MapKept Go.RowKit
def dD (a:Rep.iw):List Value:=[.slice a.a a.n a.c,.int .i64 a.last.seg,.int .i64 a.last.at_,.int .i64 a.last.size]
abbrev nO:Rep.iw:=⟨none,0,0,Seg.aU.zero⟩
theorem C9 (a:Rep.iw):(dD a).length=4:=rfl
theorem Jw (a:Rep.iw):(dD a).all (·.oneCell')=true:=rfl
theorem D5:jr Tryz.prog 266=some (.agg (slotL dD ⟨0,ah.zero32,nO⟩).toArray):=by kernel_rfl
theorem ajg:rM Tryz.prog 266=some [(0,1),(1,32),(33,4)]:=by kernel_rfl
section
variable {w0 w:World}{F R:List aH}{p n gn d c:Nat}{sv v:Value}{k:ah.Bs}{s:List (Tab.Slot (Rep.iw))}{a:Option Addr}
theorem Qa (hl:0<s.length) (h:Sat w0 w (fJ p 262 (.slice a s.length c) n gn::F)) :
  Calls Tryz.prog 164 #[ptr p] w (aP fun v w'=>v = .bool true∧w=w'):=by
 have e0:w.cell? ⟨p,0,none⟩=some (.slice a s.length c):=h.cellAt 0 _ rfl;have c1:(0:Int)<(s.length:Int):=oQ;go_enter Tryz.func164,Tryz.ntmps164;go_wp2;go_ret;exact ⟨_,rfl,rfl,rfl⟩
abbrev lJ.lu:=@dD
abbrev lJ.tX:Nat:=37
abbrev lJ.KW:Nat:=4
theorem lJ.Lc:type_of% @C9:=@C9
theorem lJ.Sr:type_of% @Tryz.func165:=@Tryz.func165
theorem lJ.Sv:type_of% @Tryz.ntmps165:=@Tryz.ntmps165
abbrev lJ.DT:Nat:=262
abbrev lJ.DU:Nat:=266
theorem lJ.Sz:type_of% @Tryz.underlying266:=@Tryz.underlying266
theorem lJ.SA:type_of% @D5:=@D5
theorem lJ.RP:type_of% @Jw:=@Jw
open lJ in
theorem EZ (g:Tab.Good s) (hc:s.length≤1073741824) (hk:k.length=32) (he:Tab.Ends s k d) (h:Sat w0 w (fJ p 262 sv n gn::aB 266 37 sv (s.flatMap (slotL dD))::F)) :
  Calls Tryz.prog 165 #[ptr p,.agg (aA k).toArray] w (aP fun v w'=>∃ x,s[Tab.pos k s.length d]?=some x∧v = .tuple #[.int .i64 (Tab.pos k s.length d:Nat),.int .i64 ((d:Int)+1),.bool (decide (x.st=1))] ∧
   Sat w0 w' (fJ p 262 sv n gn::aB 266 37 sv (s.flatMap (slotL dD))::F)):=Py
end
def dB (p:Nat) (m:ah.Bs→Option (Rep.iw)) (B:Nat):aH:=fun h=>∃ (t:Tab.Tb (Rep.iw)) (sv:Value),(t.Ok∧t.Is m∧t.n+t.gone≤B)∧stars [fJ p 262 sv t.n t.gone,aB 266 37 sv (t.slots.flatMap (slotL dD))] h
theorem D6:jr Tryz.prog 202=some (.agg (dD ⟨none,0,0,Seg.aU.zero⟩).toArray):=by kernel_rfl
section
variable {w0 w:World}{F R:List aH}{p B:Nat}{sv v:Value}{k:ah.Bs}{m:ah.Bs→Option (Rep.iw)}{t:Tab.Tb (Rep.iw)}
theorem dB.open (h:Sat w0 w (dB p m B::F)):∃ (t:Tab.Tb (Rep.iw)) (sv:Value),(t.Ok∧t.Is m∧t.n+t.gone≤B)∧Sat w0 w (fJ p 262 sv t.n t.gone::aB 266 37 sv (t.slots.flatMap (slotL dD))::F):=by
 obtain ⟨ha,x,hx,q,r,dd,rfl,⟨t,sv,hin,hp⟩,hq⟩:=h;refine ⟨t,sv,hin,ha,_,hx,?_⟩;show stars ([fJ p 262 sv t.n t.gone,aB 266 37 sv (t.slots.flatMap (slotL dD))]++F) _;rw [qy];exact ⟨q,r,dd,rfl,hp,hq⟩
theorem dB.shut (h1:t.Ok) (h2:t.Is m) (h3:t.n+t.gone≤B) (h:Sat w0 w (fJ p 262 sv t.n t.gone::aB 266 37 sv (t.slots.flatMap (slotL dD))::F)):Sat w0 w (dB p m B::F):=
 Sat.join (M:=[fJ p 262 sv t.n t.gone,aB 266 37 sv (t.slots.flatMap (slotL dD))]) h fun _ hx=>⟨t,sv,⟨h1,h2,h3⟩,hx⟩
theorem Ze (h:Sat w0 w F):Calls Tryz.prog 119 #[] w (aP fun v w'=>∃ p,v=ptr p∧Sat w0 w' (dB p (fun _=>none) 0::F)):=by
 go_enter Tryz.func119,Tryz.ntmps119
 go_wp2_with (first
  |((with_reducible refine at_make ⟨?_⟩);refine DX (e:=266) (sz:=37) (eY:=88) (n:=8) au D5 h aj aj aN aN ?_;intro bM wM hM)
  |((with_reducible refine fK ⟨?_⟩);refine fM hM ak ak ?_;intro bB wB hB))
 go_ret;refine ⟨_,rfl,bB,rfl,?_⟩;have e:(List.replicate 8 (slotL dD ⟨0,ah.zero32,nO⟩)).flatten=(List.replicate 8 (⟨0,ah.zero32,nO⟩:Tab.Slot (Rep.iw))).flatMap (slotL dD):=(Dx 8 _).symm;rw [e]at hB;exact dB.shut (t:=⟨List.replicate 8 ⟨0,ah.zero32,nO⟩,0,0⟩) (Tab.PU aN rfl) (Tab.PS rfl 0 0) (abL 0) hB
theorem lJ.RQ:type_of% @dB.open:=@dB.open
theorem lJ.RU:type_of% @Tryz.func122:=@Tryz.func122
theorem lJ.RY:type_of% @Tryz.ntmps122:=@Tryz.ntmps122
theorem lJ.KU:type_of% @D6:=@D6
abbrev lJ.yU:=@nO
abbrev lJ.BG:Nat:=202
theorem lJ.RZ:type_of% @Qa:=@Qa
theorem lJ.Si:type_of% @EZ:=@EZ
theorem lJ.DL:type_of% @Tryz.underlying202:=@Tryz.underlying202
theorem lJ.KX:type_of% @dB.shut:=@dB.shut
open lJ in
theorem Xf (hB:B≤268435000) (hk:k.length=32) (h:Sat w0 w (dB p m B::F)) :
  Calls Tryz.prog 122 #[ptr p,.agg (aA k).toArray] w (aP fun v w'=>v = .tuple #[.agg (dD ((m k).getD ⟨none,0,0,Seg.aU.zero⟩)).toArray,.bool (m k).isSome]∧Sat w0 w' (dB p m B::F)):=Pz
end
section
variable {w0 w:World}{F R:List aH}{p B N:Nat}{sv v:Value}{k:ah.Bs}{m:ah.Bs→Option (Rep.iw)}{t:Tab.Tb (Rep.iw)}
theorem ajW (ok:t.Ok) (hN:t.n≤N) (hNb:N≤134217728) (XW:t.slots.length≤1073741824) (h:Sat w0 w (fJ p 262 sv t.n t.gone::aB 266 37 sv (t.slots.flatMap (slotL dD))::F)) :
  Calls Tryz.prog 205 #[ptr p,.int .i64 N] w (aP fun _ w'=>∃ s' sv',Tab.vM t s' N∧Sat w0 w' (fJ p 262 sv' t.n 0::aB 266 37 sv' (s'.flatMap (slotL dD))::F)):=by
 have dw:=uQ ok;have HN:=uQ hN;have Tv:=uQ hNb;have Hlen:=uQ (show ∀ x∈t.slots,(slotL dD x).length=37 from fun x hx=>jc dD x (ok.good.key x hx) 4 (C9 _));obtain ⟨la,lc,rfl⟩:=jl Hlen.out (Sat.rd (h.pick aY)) aN;have hw0:IntKind.i64.wrap (2 * (N:Int))=2 * (N:Int):=acC _ oQ;have Yn:wrap64 (2 * (N:Int))=2 * (N:Int):=adM _ oQ;clear ok hN;go_enter Tryz.func205,Tryz.ntmps205;go_wp2_with fail
 go_loopg [4] (4 * N) (fun g cq wr=>∃ c:Nat,g=4 * N+8 - c∧cq = .int .i64 c∧(∃ j,c=2^j∧3≤j)∧8≤c∧(c=8∨c<4 * N)∧wr=w)
 case atStart=>exact ⟨8,by omega,rfl,⟨3,rfl,abL 3⟩,abL 8,.inl rfl,rfl⟩
 case round=>
  obtain ⟨c,rfl,rfl,⟨j,hj,hj3⟩,hc8,hc,rfl⟩:=hrel;by_cases hlt:c<2 * N
  ·have c1:(c:Int)<2 * (N:Int):=by omega
   have hw1:IntKind.i64.wrap ((c:Int) * 2)=(c:Int) * 2:=acC _ oQ;have Yo:wrap64 ((c:Int) * 2)=(c:Int) * 2:=adM _ oQ;have Hj:=uQ hj;have Ef:=uQ hj3;have bV:=uQ hlt;have uj:=uQ hc8;clear hj hj3 hlt hc hc8;go_wp2_with fail
   go_roundg (4 * N+8 - c * 2)
   case measure=>have:=bV.out;have:=uj.out;omega
   case rel=>exact ⟨c * 2,rfl,by first|rfl|go_num,⟨j+1,by rw [aoq,Hj.out],by have:=Ef.out;omega⟩,by have:=uj.out;omega,.inr (by have:=bV.out;omega),rfl⟩
  ·have c1:¬ (c:Int)<2 * (N:Int):=by omega
   have HC:=uQ (show (∃ j,c=2^j∧3≤j)∧2 * N≤c∧8≤c∧(c=8∨c<4 * N) from ⟨⟨j,hj,hj3⟩,by omega,hc8,hc⟩);have hcb:c≤1073741824:=oQ;have rZ:=uQ hcb;clear hj hj3 hlt hc hc8 hw0 hcb hNb
   go_wp2_with (first
    |((with_reducible refine bI ⟨?_⟩);refine gu h aj bC bJ ak au ?_)
    |((with_reducible refine at_make ⟨?_⟩);refine DX (e:=266) (sz:=37) (eY:=88) (n:=c) au D5 h aj aj (by have:=rZ.out;omega) (by have:=rZ.out;omega) ?_;intro bM wM hM)
    |((with_reducible refine cO ⟨?_⟩);refine fG aQ aj ak pQ eX bJ au aj ?_;intro wS hS))
   have e8:(List.replicate c (slotL dD ⟨0,ah.zero32,nO⟩)).flatten=(List.replicate c (⟨0,ah.zero32,nO⟩:Tab.Slot (Rep.iw))).flatMap (slotL dD):=(Dx c _).symm;rw [e8]at hS;have hS0:Sat w0 _ (fJ p 262 (.slice (some ⟨bM,0,none⟩) c c) t.n 0::aB 266 37 (.slice (some ⟨bM,0,none⟩) c c) ((List.replicate c (⟨0,ah.zero32,nO⟩:Tab.Slot (Rep.iw))).flatMap (slotL dD))::aB 266 37 (.slice la t.slots.length lc) (t.slots.flatMap (slotL dD))::F):=hS.sb;clear hS hM h e8 c1;go_wp2_with fail
   go_loopg [31] t.slots.length (fun g iq wr=>∃ (i:Nat) (cur:List (Tab.Slot (Rep.iw))),g=t.slots.length - i∧i≤t.slots.length∧iq = .int .i64 i∧Tab.Half t.slots cur i∧cur.length=c ∧
    Sat w0 wr (fJ p 262 (.slice (some ⟨bM,0,none⟩) c c) t.n 0::aB 266 37 (.slice (some ⟨bM,0,none⟩) c c) (cur.flatMap (slotL dD))::aB 266 37 (.slice la t.slots.length lc) (t.slots.flatMap (slotL dD))::F))
   case atStart=>exact ⟨0,_,rfl,acV _,rfl,Tab.half_start HC.out.1 aN rfl,adI,hS0⟩
   case round=>
    obtain ⟨i,cur,rfl,hi,rfl,hH,hcl,hS⟩:=hrel;clear hS0;have HH:=uQ hH;have fP:=uQ hcl;by_cases hlt:i<t.slots.length;rotate_left
    ·obtain rfl:i=t.slots.length:=by omega
     have c1:¬ (t.slots.length:Int)<(t.slots.length:Int):=oQ;clear hlt hH hi;go_wp2_with fail
     go_end0
     obtain ⟨q1,q2,q3,q4⟩:=HH.out.done;exact ⟨_,rfl,cur,⟨q1,q2,q3.trans dw.out.n.symm,q4.trans dw.out.n.symm,by rw [fP.out];exact HC.out.2.1,by rw [fP.out];exact HC.out.2.2.1,by rw [fP.out];exact HC.out.2.2.2⟩,_,hS.sb⟩
    have c1:(i:Int)<(t.slots.length:Int):=oQ;have hwi:=yA (i:=i);obtain ⟨x,hx⟩:∃ x,t.slots[i]?=some x:=⟨_,aaI hlt⟩;have hxm:=abV hx;have hst:=dw.out.good.st x hxm;have Hxk:=uQ (dw.out.good.key x hxm);obtain ⟨bk,off,c',hsv,hcell⟩:=jG Hlen.out (Sat.rd (hS.pick eH)) hx aN;cases hsv;have gK:=Hlen.out x hxm;have Hx:=uQ hx;have bV:=uQ hlt;clear hx hxm hlt hH hi
    go_wp2_with (first
     |((with_reducible refine bI ⟨?_⟩);refine iL (b:=bk) (o:=off+i * 37) (slotL dD x) aj hcell Tryz.underlying266 rfl (by rw [gK];kernel_rfl) ?_)
     |(with_reducible apply gq))
    refine ⟨fF D5 hS rfl ?_⟩;intro b7 w7 hS7;go_wp2_with (first|((with_reducible refine cO ⟨?_⟩);refine gJ (slotL dD x).toArray hS7 aj aj (by rw [abX,gK];rfl) cZ (by rw [abX,gK];kernel_rfl) (by rw [acW];exact mY dD x (Jw _)) ?_;intro w10 dL)|(with_reducible apply bI));refine ⟨?_⟩;clear hS hS7 hcell;have f0:w10.cell? ⟨b7,0,none⟩=some (.int .i64 x.st):=dL.cellP aV 0 (by rw [abY];rfl);have f1:w10.rangeAt b7 1 (aA x.key):=yP (dL.pick aV);by_cases h1:x.st=1;rotate_left
    ·have hst1:((x.st:Int)==1)=false:=by rw [acH];omega
     have H1:=uQ h1;clear h1 f1;go_wp2_with fail
     go_roundg (t.slots.length - (i+1))
     case measure=>have:=bV.out;omega
     case rel=>exact ⟨i+1,cur,rfl,bV.out,by first|rfl|go_num,HH.out.skip Hx.out H1.out,fP.out,dL.sb⟩
    ·have hus:Tab.used cur<cur.length:=by
      have h2:=HH.out.nu;have h3:=Tab.Og t.slots i;have h4:=dw.out.n;have h5:=HN.out;have h6:=HC.out;rw [fP.out];omega
     obtain ⟨dd,hdd⟩:=Tab.Jc (k:=x.key) HH.out.good (Tab.Je hus);have H1:=uQ h1;have vw:=uQ hdd;have hst1:((x.st:Int)==1)=true:=by rw [h1];rfl
     have wY:=uQ (show ∀ y∈cur,(slotL dD y).length=37 from fun y hy=>jc dD y (HH.out.good.key y hy) 4 (C9 _));clear h1 hus hdd;go_wp2_with ((with_reducible refine bI ⟨?_⟩);refine iL (b:=b7) (o:=1) (aA x.key) aj f1 Tryz.underlying50 rfl (by rw [aX,Hxk.out];kernel_rfl) ?_);have hf:=EZ HH.out.good (by rw [fP.out];exact rZ.out) Hxk.out vw.out (dL.sb:Sat w0 w10 (fJ p 262 (.slice (some ⟨bM,0,none⟩) c c) t.n 0::aB 266 37 (.slice (some ⟨bM,0,none⟩) c c) (cur.flatMap (slotL dD))::pt b7 (.cells (slotL dD x).toArray 266 (0,0))::aB 266 37 (.slice (some ⟨bk,off,none⟩) t.slots.length lc) (t.slots.flatMap (slotL dD))::F));clear dL f0 f1;refine hf.mono ?_;rintro ee iV ⟨v,rfl,y,hy,rfl,nV⟩;clear hf hy;have hlt2:=Tab.lV (k:=x.key) (d:=dd) HH.out.good.jB;rw [fP.out]at hlt2
     have xk:=uQ (yN (f:=slotL dD) (k:=37) (i:=Tab.pos x.key cur.length dd) (x:=x) wY.out gK (Tab.lV HH.out.good.jB));have xu:=uQ (HH.out.step dw.out.good Hx.out H1.out vw.out);rw [fP.out]at xk xu;rw [fP.out];have hrl:(cur.flatMap (slotL dD)).length=37 * c:=by rw [iY wY.out,fP.out]
     generalize Tab.pos x.key c dd=P0 at *
     have c2:(0:Int)≤(P0:Int):=oQ;have c3:(P0:Int)<(c:Int):=oQ;go_wp2_with fail;have hSd:=nV.drew;clear nV;refine dS [6,7] (fun w'=>w'.cell? ⟨p,0,none⟩=some (.slice (some ⟨bM,0,none⟩) c c)∧w'.rangeAt b7 0 (slotL dD x)) au ?_;have hG:World.cell? _ ⟨p,0,none⟩=some (.slice (some ⟨bM,0,none⟩) c c)∧World.rangeAt _ b7 0 (slotL dD x):=⟨hSd.cellP bC 0 rfl,oZ (hSd.pk (A:=pt b7 (.cells (slotL dD x).toArray 266 (0,0))))⟩;refine rP 0 ?_ (y:=aZ);refine rP 1 ?_ (y:=dV);refine rP 2 ?_ (y:=bW);refine rt 3 (h:=?_);refine rP 4 ?_ (y:=aZ);refine gV 5 ak au eU (iI (b:=b7) (o:=0) (slotL dD x) aj Tryz.underlying266 rfl (by rw [gK];kernel_rfl) (fun w hw=>hw.2)) aQ gQ ?_;refine rP 6 ?_ (y:=jf);clear hG;refine bY 7 ak au (fun K hK=>?_);refine uG (vs:=slotL dD x) (P0 * 37) hSd ak ak rfl (jh cZ) (by rw [gK,hrl];omega) (by rw [gK];kernel_rfl) (mY dD x (Jw _)) ?_;intro w12 iK
     refine hK _ _ (.inl rfl) ?_;clear hK hSd;refine dI au ?_
     try simp only [jT]
     try go_frame
     rw [← xk.out]at iK;go_wp2_with fail
     go_roundg (t.slots.length - (i+1))
     case measure=>have:=bV.out;omega
     case rel=>exact ⟨i+1,_,rfl,bV.out,by first|rfl|go_num,xu.out,by rw [ag6];exact fP.out,iK.sb⟩
end
theorem ak0 (k:ah.Bs) (hk:k.length=32) (v:Rep.iw) (w:World) :
  (Instr.build 266 #[(0,.int .i64 1),(1,.agg (aA k).toArray),(2,.agg (dD v).toArray)]).run Tryz.prog w = .ok (.agg (slotL dD ⟨1,k,v⟩).toArray) w:=by
 have hbk:(aA k).toArray.size=32:=by rw [abX,aX,hk]
 refine (aod (P:=Tryz.prog) [(0,.int .i64 1),(1,.agg (aA k).toArray),(2,.agg (dD v).toArray)] ajg D5 (by
  intro p' hp;simp only [acK,ag0,aoj]at hp;have hzz:(Value.agg (slotL dD (⟨0,ah.zero32,nO⟩:Tab.Slot (Rep.iw))).toArray).cells.size=37:=by
   show (slotL dD (⟨0,ah.zero32,nO⟩:Tab.Slot (Rep.iw))).toArray.size=37;rw [abX,jc dD _ aN 4 rfl]
  rw [hzz];rcases hp with rfl|rfl|rfl
  ·exact ⟨0,rfl,by show 0+1≤37;omega⟩
  ·refine ⟨1,?_,?_⟩
   ·show some (1,32)=some (1,(aA k).toArray.size);rw [hbk]
   ·show 1+(aA k).toArray.size≤37;omega
  ·exact ⟨33,rfl,by show 33+4≤37;omega⟩) w).trans ?_
 rw [show (Value.agg (slotL dD (⟨0,ah.zero32,nO⟩:Tab.Slot (Rep.iw))).toArray).cells=(slotL dD (⟨0,ah.zero32,nO⟩:Tab.Slot (Rep.iw))).toArray from rfl,Qm dD ⟨0,ah.zero32,nO⟩ k v aN hk rfl 4 rfl]
section
variable {w0 w:World}{F R:List aH}{p B:Nat}{sv:Value}{k:ah.Bs}{m:ah.Bs→Option (Rep.iw)}
theorem ajs (hB:B≤134217000) (hk:k.length=32) (v:Rep.iw) (h:Sat w0 w (dB p m B::F)) :
  Calls Tryz.prog 163 #[ptr p,.agg (aA k).toArray,.agg (dD v).toArray] w (aP fun _ w'=>Sat w0 w' (dB p (Tab.put m k v) (B+1)::F)):=by
 obtain ⟨t,sv,⟨ok,is,hb⟩,hR⟩:=dB.open h;obtain ⟨d,he⟩:=ok.ends k;have hsz:t.slots.length≤1073741824:=by have:=ok.size;omega
 have Hlen:=uQ (show ∀ x∈t.slots,(slotL dD x).length=37 from fun x hx=>jc dD x (ok.good.key x hx) 4 (C9 _));obtain ⟨la,lc,rfl⟩:=jl Hlen.out (Sat.rd (hR.pick aY)) aN;have hrl:0<(t.slots.flatMap (slotL dD)).length:=by rw [iY Hlen.out];have:=ok.good.jB;omega
 obtain ⟨bk,rfl⟩:=Ba (hR.pick aY) hrl;have Hk:=uQ hk;have dw:=uQ ok;have iR:=uQ is;have Hb:=uQ hb;have He:=uQ he;have iC:=uQ hsz;have HB:=uQ hB;have jv:=uQ ok.good.jB;have qJ:=uQ (show (aA k).length=32 by rw [aX,hk]);clear h hk ok is hb he hsz hB hrl;go_enter Tryz.func163,Tryz.ntmps163;go_wp2_with (with_reducible apply fK);refine ⟨fM hR ak ak ?_⟩;intro b4 w4 hS4;go_wp2_with (with_reducible apply fK);refine ⟨fM hS4 ak ak ?_⟩;intro b5 w5 hS5;have hA:Sat w0 w5 (fJ p 262 (.slice (some ⟨bk,0,none⟩) t.slots.length lc) t.n t.gone::aB 266 37 (.slice (some ⟨bk,0,none⟩) t.slots.length lc) (t.slots.flatMap (slotL dD))::pt b4 (.cells (aA k).toArray 50 (0,0))::pt b5 (.cells (dD v).toArray 202 (0,0))::F):=hS5.sb;clear hR hS4 hS5;go_wp2_with fail;refine (Qa jv.out hA).mono ?_;rintro ee w7 ⟨v',rfl,rfl,rfl⟩
 go_wp2_with ((with_reducible refine bI ⟨?_⟩);refine iW hA aj (aT (aT (aV (A:=pt b4 (.cells (aA k).toArray 50 (0,0)))))) Tryz.underlying50 rfl (by rw [abX,qJ.out];kernel_rfl) ?_);have hf:=EZ dw.out.good iC.out Hk.out He.out hA;clear hA;refine hf.mono ?_;rintro ee w8 ⟨v',rfl,x,hx,rfl,jE⟩;clear hf;have hlt:=Tab.lV (k:=k) (d:=d) jv.out;by_cases h1:x.st=1
 ·have hd:decide (x.st=1)=true:=adt h1;have hxm:=abV hx;have oG:=uQ (Gt (f:=slotL dD) (k:=37) (o:=33) (x':=⟨x.st,x.key,v⟩) (vs:=dD v) Hlen.out hx (Rt dD x v (dw.out.good.key x hxm) rfl) (by show 33+4≤37;decide));have lM:=uQ (Tab.Ql dw.out He.out hx h1 v);have pq:=uQ (Tab.CZ iR.out (Tab.JX dw.out.good He.out hx h1 v).2 t.n t.gone);have hrl:(t.slots.flatMap (slotL dD)).length=37 * t.slots.length:=iY Hlen.out;clear hx hxm h1;generalize Tab.pos k t.slots.length d=P0 at *
  have c0:(0:Int)≤(P0:Int):=oQ;have c1:(P0:Int)<(t.slots.length:Int):=oQ;go_wp2_with fail;have hSd:=jE.drew;clear jE;refine dS [6,7,8] (fun w'=>w'.cell? ⟨p,0,none⟩=some (.slice (some ⟨bk,0,none⟩) t.slots.length lc)∧w'.rangeAt b5 0 (dD v)) au ?_;have hG:World.cell? _ ⟨p,0,none⟩=some (.slice (some ⟨bk,0,none⟩) t.slots.length lc)∧World.rangeAt _ b5 0 (dD v):=⟨hSd.cellP bC 0 rfl,oZ (hSd.pk (A:=pt b5 (.cells (dD v).toArray 202 (0,0))))⟩;refine rP 0 ?_ (y:=aZ);refine rP 1 ?_ (y:=dV);refine rP 2 ?_ (y:=bW);refine rt 3 (h:=?_);refine rP 4 ?_ (y:=aZ);refine gV 5 ak au eU (iI (b:=b5) (o:=0) (dD v) aj Tryz.underlying202 rfl au (fun w hw=>hw.2)) aQ gQ ?_;refine rP 6 ?_ (y:=jf);refine rP 7 ?_ (y:=bW);clear hG;refine bY 8 ak au (fun K hK=>?_);refine uG (vs:=dD v) (P0 * 37+33) hSd ak ak rfl (jh cZ) (by rw [hrl];show P0 * 37+33+4≤_;omega) au aj ?_;intro w12 iK
  refine hK _ _ (.inl rfl) ?_;clear hK hSd;refine dI au ?_
  try simp only [jT]
  try go_frame
  rw [← oG.out]at iK;go_wp2_with fail
  go_end0
  exact ⟨_,rfl,dB.shut (sv:= .slice (some ⟨bk,0,none⟩) t.slots.length lc) lM.out pq.out (Nat.le_succ_of_le Hb.out) (iK.sb)⟩
 have hd:decide (x.st=1)=false:=ac4 h1;have hb4:=Hb.out;have hB4:=HB.out;have yw:=iC.out;obtain ⟨hA1,hA2,hA3,x9,xY,xZ,x8,yc,yg⟩:=Ti t.n t.gone t.slots.length oQ yw;have Hx:=uQ hx;have H1:=uQ h1;clear hx h1 hb4 hB4 yw;go_wp2_with fail;have hSd:=jE.drew;clear jE;have e0:World.cell? _ ⟨p,0,none⟩=some (.slice (some ⟨bk,0,none⟩) t.slots.length lc):=hSd.cellP bC 0 rfl;have e1:World.cell? _ ⟨p,1,none⟩=some (.int .i64 t.n):=hSd.cellP bC 1 rfl;have e2:World.cell? _ ⟨p,2,none⟩=some (.int .i64 t.gone):=hSd.cellP bC 2 rfl
 go_region
 have hcmp:3 * t.slots.length<4 * (t.n+t.gone+1)∨4 * (t.n+t.gone+1)≤3 * t.slots.length:=oQ;rcases hcmp with hcmp|hcmp
 focus
  have hci:(3:Int) * (t.slots.length:Int)<4 * ((t.n:Int)+(t.gone:Int)+1):=oQ;have hrn:=ajW (N:=t.n+1) dw.out (ahD _) (by have:=Hb.out;have:=HB.out;omega) iC.out hSd;rw [show (((t.n+1:Nat)):Int)=(t.n:Int)+1 by omega]at hrn;clear hSd e0 e2;go_wp2_with fail;refine hrn.mono ?_;rintro ee w9 ⟨v',rfl,s',sv',nX,iZ⟩;clear hrn e1 hci hcmp;have hok1:=nX.ok;have sO:=nX.is iR.out t.n 0;have sS:4 * ((⟨s',t.n,0⟩:Tab.Tb (Rep.iw)).n+(⟨s',t.n,0⟩:Tab.Tb (Rep.iw)).gone+1)≤3 * (⟨s',t.n,0⟩:Tab.Tb (Rep.iw)).slots.length:=by have:=nX.lo;simp only;omega
  have hb1:(⟨s',t.n,0⟩:Tab.Tb (Rep.iw)).n+(⟨s',t.n,0⟩:Tab.Tb (Rep.iw)).gone≤B:=by have:=Hb.out;simp only;omega
  have dL:Sat w0 w9 (fJ p 262 sv' (⟨s',t.n,0⟩:Tab.Tb (Rep.iw)).n (⟨s',t.n,0⟩:Tab.Tb (Rep.iw)).gone::aB 266 37 sv' ((⟨s',t.n,0⟩:Tab.Tb (Rep.iw)).slots.flatMap (slotL dD))::pt b4 (.cells (aA k).toArray 50 (0,0))::pt b5 (.cells (dD v).toArray 202 (0,0))::F):=iZ;clear iZ nX hA1 hA2 hA3 x9 xY xZ x8 yc yg;generalize (⟨s',t.n,0⟩:Tab.Tb (Rep.iw))=t1 at hok1 sO sS hb1 dL;have qj:=uQ (show ∀ x∈t1.slots,(slotL dD x).length=37 from fun x hx=>jc dD x (hok1.good.key x hx) 4 (C9 _));obtain ⟨FP,qp,rfl⟩:=jl qj.out (Sat.rd (dL.pick aY)) aN;have jM:=uQ hok1;have qh:=uQ sO;have su:=uQ sS;have Hb1:=uQ hb1;obtain ⟨d1,he1⟩:=hok1.ends k;have kK:=uQ he1;have hno:m k=none:=by
   obtain ⟨_,q2⟩:=iR.out.some dw.out He.out Hx.out;exact q2 H1.out
  have hsz1:t1.slots.length≤1073741824:=by have:=hok1.size;have:=HB.out;omega
  clear hok1 sO sS hb1 he1;go_wp2_with ((with_reducible refine bI ⟨?_⟩);refine iW dL aj (aT (aT (aV (A:=pt b4 (.cells (aA k).toArray 50 (0,0)))))) Tryz.underlying50 rfl (by rw [abX,qJ.out];kernel_rfl) ?_);have hf:=EZ jM.out.good hsz1 Hk.out kK.out dL;clear dL hsz1;refine hf.mono ?_;rintro ee w8b ⟨v',rfl,x1,hx1,rfl,hT⟩;have nR:=uQ hx1
  have qg:=uQ (show x1.st≠1 from fun h=>by
   have:=(qh.out.some jM.out kK.out hx1).1 h;rw [hno]at this;cases this)
  clear hf hx1 hno Hx H1 He dw iR Hlen jv Hb iC hlt hd;go_wp2_with fail
 rotate_left
 focus
  have hci:¬ (3:Int) * (t.slots.length:Int)<4 * ((t.n:Int)+(t.gone:Int)+1):=oQ;have su:=uQ hcmp;clear e0 e1 e2 hcmp;go_wp2_with fail;clear hci hA1 hA2 hA3 x9 xY xZ x8 yc yg hlt hd jv iC;obtain ⟨t1,rfl⟩:∃ y,y=t:=⟨t,rfl⟩;obtain ⟨x1,rfl⟩:∃ y,y=x:=⟨x,rfl⟩;obtain ⟨d1,rfl⟩:∃ y,y=d:=⟨d,rfl⟩;obtain ⟨FP,yj⟩:∃ y:Option Addr,y=some ⟨bk,0,none⟩:=⟨_,rfl⟩;obtain ⟨qp,rfl⟩:∃ y,y=lc:=⟨lc,rfl⟩;rw [← yj]at hSd;have hT:=hSd;have jM:=uQ dw.out;have qh:=uQ iR.out;have Hb1:=uQ Hb.out;have kK:=uQ He.out;have nR:=uQ Hx.out;have qg:=uQ H1.out;have qj:=uQ Hlen.out;clear hSd dw iR Hb He Hx H1 Hlen yj
 all_goals
  have hrl:(t1.slots.flatMap (slotL dD)).length=37 * t1.slots.length:=iY qj.out;obtain ⟨bk1,rfl⟩:=Ba (hT.pick aY) (by rw [hrl];have:=jM.out.good.jB;omega);have oG:=uQ (yN (f:=slotL dD) (k:=37) (i:=Tab.pos k t1.slots.length d1) (x:=⟨1,k,v⟩) qj.out (jc dD _ Hk.out 4 rfl) (Tab.lV jM.out.good.jB));have lM:=uQ (Tab.Qk jM.out su.out kK.out nR.out qg.out Hk.out v);have pq:=uQ (Tab.CZ qh.out (Tab.Bd jM.out.good kK.out nR.out qg.out Hk.out v).2 (t1.n+1) t1.gone);have hlt1:=Tab.lV (k:=k) (d:=d1) jM.out.good.jB;have hls:=jc dD (⟨1,k,v⟩:Tab.Slot (Rep.iw)) Hk.out 4 rfl;have hwn:IntKind.i64.wrap ((t1.n:Int)+1)=(t1.n:Int)+1:=acC _ (by have:=Hb1.out;have:=HB.out;omega);clear nR qg kK jM qh su;generalize Tab.pos k t1.slots.length d1=P1 at *
  have c0:(0:Int)≤(P1:Int):=oQ;have c1:(P1:Int)<(t1.slots.length:Int):=oQ;have hSd:=hT.drew;clear hT;refine dS [8,9] (fun w'=>w'.cell? ⟨p,0,none⟩=some (.slice (some ⟨bk1,0,none⟩) t1.slots.length qp)∧w'.rangeAt b4 0 (aA k)∧w'.rangeAt b5 0 (dD v)) au ?_;have hG:World.cell? _ ⟨p,0,none⟩=some (.slice (some ⟨bk1,0,none⟩) t1.slots.length qp)∧World.rangeAt _ b4 0 (aA k)∧World.rangeAt _ b5 0 (dD v):=⟨hSd.cellP bC 0 rfl,oZ (hSd.pk (A:=pt b4 (.cells (aA k).toArray 50 (0,0)))),oZ (hSd.pk (A:=pt b5 (.cells (dD v).toArray 202 (0,0))))⟩;refine rP 0 ?_ (y:=aZ);refine rP 1 ?_ (y:=dV);refine rP 2 ?_ (y:=bW);refine rt 3 (h:=?_);refine rP 4 ?_ (y:=aZ);refine gV 5 ak au eU (iI (b:=b4) (o:=0) (aA k) aj Tryz.underlying50 rfl (by rw [qJ.out];kernel_rfl) (fun w hw=>hw.2.1)) aQ gQ ?_
  refine gV 6 ak au eU (iI (b:=b5) (o:=0) (dD v) aj Tryz.underlying202 rfl au (fun w hw=>hw.2.2)) aQ gQ ?_;refine rP 7 ?_ (y:=(GX ak ak ak (fun w=>ak0 k Hk.out v w)));refine rP 8 ?_ (y:=jf);clear hG;refine bY 9 ak au (fun K hK=>?_);refine uG (vs:=slotL dD ⟨1,k,v⟩) (P1 * 37) hSd ak ak rfl (jh cZ) (by rw [hrl,hls];omega) (by rw [hls];kernel_rfl) (mY dD _ aj) ?_;intro w12 iK;refine hK _ _ (.inl rfl) ?_;clear hK hSd;refine dI au ?_
  try simp only [jT]
  try go_frame
  rw [← oG.out]at iK
  go_wp2_with (first
   |((with_reducible refine bI ⟨?_⟩);refine gu iK aj bC bJ ak au ?_)
   |((with_reducible refine cO ⟨?_⟩);refine fG aQ aj ak pQ eX bJ au aj ?_;intro wS hS))
  go_end0
  exact ⟨_,rfl,dB.shut (sv:= .slice (some ⟨bk1,0,none⟩) t1.slots.length qp) lM.out pq.out (by have:=Hb1.out;simp only;omega) (hS.sb)⟩
end
section
variable {P:Program}{w0 w:World}{L R:List aH}{ops:Array Oper}{rest:List Oper}{a:Act}{Q:Exit→Act→World→Prop}{dst:Option Tmp}{t ty e:TypeId}{pos:String}{after:Array Edge}{x y s:Operand}{sz eY:Nat}{v v1:Value}
theorem akW (hb:pG P t e sz eY=true) (w:World):(Instr.buildSlice t 0 #[]).run P w = .ok (.slice (some ⟨w.heap.size,0,none⟩) 0 0) (w.alloc (.cells #[] e)):=by
 obtain ⟨hu,i,z,hi,hz,e1,e2,e3,e4⟩:=xE hb;have hsz':(sizeOf e).run P w = .ok i.size w:=by simp [sizeOf,typeInfo,hi]
 have hf:Instr.fill (fun i'=>some (i' * i.size,i.size)) ((Array.range 0).map ((#[]:Array Value)[· % (#[]:Array Value).size]!)) []=some #[]:=by unfold Instr.fill;simp
 unfold Instr.buildSlice;simp only [acN,agK hu,acB,hsz',Nat.zero_mul,abA (show ¬ (0>2^24) by omega)];simp [newRow,go_sem]
theorem Np (h:Stop (wpList P ops Q (⟨dst,.buildSlice ty 0 #[],t,pos,after,none⟩::rest) a w)):wpList P ops Q (⟨dst,.buildSlice ty 0 #[],t,pos,after,none⟩::rest) a w:=h.out
theorem SX (hb:pG P ty e sz eY=true) (hs:Sat w0 w L)
  (hK:∀ b w',Sat w0 w' (aB e sz (.slice (some ⟨b,0,none⟩) 0 0) []::L)→wpList P ops Q rest (a.put dst (.slice (some ⟨b,0,none⟩) 0 0)) w'):wpList P ops Q (⟨dst,.buildSlice ty 0 #[],t,pos,after,none⟩::rest) a w:=by
 refine aeB rfl fun _ hK'=>?_;have hS:=hs.alloc (.cells #[] e);unfold Oper.wp execOp;simp only [aes,adw,acN,ac1,akW hb w,acB];exact hK' _ _ (hK _ _ (Sat.kR hS (by simp) (abL _) (by simp) aN (by simp)))
end
section
variable {w0 w:World}{F:List aH}{p b n c B:Nat}{m:ah.Bs→Option Seg.aU}{xs:List Value}
theorem aeN (h1:∀ u∈xs,u.oneCell'=true) (hl:xs.length≤2147483648) (h:Sat w0 w (aB 164 36 (.slice (some ⟨b,0,none⟩) n c) xs::F)) :
  Calls Tryz.prog 87 #[.slice (some ⟨b,0,none⟩) n c] w (aP fun v w'=>Sat w0 w' (aB 164 36 v xs::aB 164 36 (.slice (some ⟨b,0,none⟩) n c) xs::F)):=by
 have H1:=uQ h1;have Hl:=uQ hl;have he:∀ w,(binOp .eql 161 (.slice (some ⟨b,0,none⟩) n c) (.slice none 0 0)).run Tryz.prog w = .ok (.bool false) w:=fun w=>by first|kernel_rfl|rfl
 clear h1 hl;go_enter Tryz.func87,Tryz.ntmps87
 go_wp2_with (first
  |((with_reducible refine Np ⟨?_⟩);refine SX (e:=164) (sz:=36) (eY:=64) au h ?_;intro bN wN hN)
  |(with_reducible apply lX))
 refine ⟨SQ 164 36 64 au hN aj aj aV (Sat.rd hN.drop) H1.out (by have:=Hl.out;simp only [adF];omega) aN ?_⟩;intro v' w' hS;rw [adl]at hS;go_wp2_with fail;go_ret;exact ⟨_,rfl,hS⟩
theorem alG (s:List (Tab.Slot Seg.aU)):∀ u∈s.flatMap (slotL aS),u.oneCell'=true:=fun u hu=>by
 obtain ⟨x,_,hx⟩:=ahK.1 hu;have:=(aeD.1 (mY aS x (uS _))) u hx;exact this
theorem NM (hB:B≤14000000) (h:Sat w0 w (aI p m B::F)) :
  Calls Tryz.prog 43 #[ptr p] w (aP fun v w'=>∃ q,v=ptr q∧Sat w0 w' (aI q m B::aI p m B::F)):=by
 obtain ⟨t,sv,⟨ok,is,hb⟩,hR⟩:=aI.open h;have hsz:t.slots.length≤56000008:=by have:=ok.size;omega
 have Hlen:=uQ (show ∀ x∈t.slots,(slotL aS x).length=36 from fun x hx=>jc aS x (ok.good.key x hx) 3 (qQ _));have jv:=uQ ok.good.jB;have UG:=uQ (show (t.slots.flatMap (slotL aS)).length=t.slots.length * 36 from (iY Hlen.out).trans (ahC _ _));obtain ⟨la,lc,rfl⟩:=jl Hlen.out (Sat.rd (hR.pick aY)) aN;obtain ⟨bs,rfl⟩:∃ bs,la=some ⟨bs,0,none⟩:=by
  rcases Sat.kP (hR.pick aY) with ⟨_,he,_⟩|⟨b,n,cap,cs,he,_⟩
  ·have:=adu List.length he;have:=UG.out;have:=jv.out;simp only [adF]at *;omega
  ·cases he;exact ⟨b,rfl⟩
 have hok:=AZ jv.out hR;have dw:=uQ ok;have iR:=uQ is;have Hb:=uQ hb;have iC:=uQ hsz;clear h ok is hb hsz hB;go_enter Tryz.func43,Tryz.ntmps43;go_wp2_with fail;refine hok.mono ?_;rintro ee w1 ⟨v,rfl,rfl,rfl⟩;clear hok;go_wp2_with fail;have hR1:=hR.drew;clear hR;refine dS [13,14,15] (fun w'=>w'.cell? ⟨p,0,none⟩=some (.slice (some ⟨bs,0,none⟩) t.slots.length lc)∧w'.cell? ⟨p,1,none⟩=some (.int .i64 t.n)∧w'.cell? ⟨p,2,none⟩=some (.int .i64 t.gone)) au ?_;have hG:World.cell? _ ⟨p,0,none⟩=some (.slice (some ⟨bs,0,none⟩) t.slots.length lc)∧World.cell? _ ⟨p,1,none⟩=some (.int .i64 t.n)∧World.cell? _ ⟨p,2,none⟩=some (.int .i64 t.gone):=⟨hR1.cellAt 0 _ rfl,hR1.cellAt 1 _ rfl,hR1.cellAt 2 _ rfl⟩;refine rP 0 ?_ (y:=aZ);refine rP 1 ?_ (y:=dV);refine rP 2 ?_ (y:=bW);refine rt 3 (h:=?_);refine rP 5 ?_ (y:=aZ);refine rP 6 ?_ (y:=dV);refine rP 7 ?_ (y:=bW)
 refine rt 8 (h:=?_);refine rP 9 ?_ (y:=aZ);refine rP 10 ?_ (y:=dV);refine rP 11 ?_ (y:=bW);refine rt 12 (h:=?_);clear hG;refine bY 4 ak au (fun K hK=>?_)
 (refine oJ au ak ?_)
 refine (aeN (alG _) (by rw [UG.out];have:=iC.out;omega) (hR1.sb:Sat w0 _ (aB 164 36 (.slice (some ⟨bs,0,none⟩) t.slots.length lc) (t.slots.flatMap (slotL aS))::fJ p 166 (.slice (some ⟨bs,0,none⟩) t.slots.length lc) t.n t.gone::F))).mono ?_;rintro ee w2 ⟨v,rfl,h2⟩;refine hK _ _ (.inr (.inl ⟨h2.cellP eH 0 rfl,h2.cellP eH 1 rfl,h2.cellP eH 2 rfl⟩)) ?_;clear hK hR1;obtain ⟨a2,c2,rfl⟩:=jl Hlen.out (Sat.rd h2) aN;refine rp 13 (hy:=(by (refine Or.inl ⟨by rfl,?_⟩;((intro wq;go_simp);first|done|exact wQ)))) (h:=?_);refine bY 14 ak au (fun K hK=>?_);refine I9 (cs:=#[.slice a2 t.slots.length c2,.int .i64 t.n,.int .i64 t.gone]) h2 ak ak ?_;intro q w3 h3;refine hK _ _ (.inl rfl) ?_;clear hK h2;refine rP 15 ?_ (y:=fZ);refine dI au ?_
 try simp only [jT]
 try go_frame
 go_wp2_with fail;go_ret;have h4:=aI.shut dw.out iR.out Hb.out (h3.sb:Sat w0 w3 (fJ p 166 (.slice (some ⟨bs,0,none⟩) t.slots.length lc) t.n t.gone::aB 164 36 (.slice (some ⟨bs,0,none⟩) t.slots.length lc) (t.slots.flatMap (slotL aS))::fJ q 166 (.slice a2 t.slots.length c2) t.n t.gone::aB 164 36 (.slice a2 t.slots.length c2) (t.slots.flatMap (slotL aS))::F));exact ⟨_,rfl,q,rfl,aI.shut dw.out iR.out Hb.out (h4.sb)⟩
theorem ah3 (h:Sat w0 w (aI p m B::F)) :
  Calls Tryz.prog 100 #[ptr p] w (aP fun v w'=>∃ t:Tab.Tb Seg.aU,(t.Ok∧t.Is m)∧v = .int .i64 t.n∧w=w'):=by
 obtain ⟨t,sv,⟨ok,is,hb⟩,hR⟩:=aI.open h;have Hlen:=uQ (show ∀ x∈t.slots,(slotL aS x).length=36 from fun x hx=>jc aS x (ok.good.key x hx) 3 (qQ _));obtain ⟨la,lc,rfl⟩:=jl Hlen.out (Sat.rd (hR.pick aY)) aN;have hok:=AZ ok.good.jB hR;have e1:w.cell? ⟨p,1,none⟩=some (.int .i64 t.n):=hR.cellAt 1 _ rfl;have H:=uQ (And.intro ok is);clear h ok is hb hR;go_enter Tryz.func100,Tryz.ntmps100;go_wp2_with fail;refine hok.mono ?_;rintro ee w1 ⟨v,rfl,rfl,rfl⟩;clear hok;go_wp2_with fail;go_ret;exact ⟨_,rfl,t,H.out,rfl,rfl⟩
end
section
variable {P:Program}{w0 w:World}{F:List aH}{ops:Array Oper}{rest:List Oper}{a:Act}{Q:Exit→Act→World→Prop}{dst:Option Tmp}{t ty:TypeId}{pos:String}{after:Array Edge}{x:Operand}{v vy:Value}
end
section
variable {w0 w:World}{F:List aH}{rv lv bv:Value}{p:Nat}
abbrev anO (b:Nat) (k:ah.Bs) (ns:List Int) (nv:Value):aH:=pt b (.cells (fD ⟨⟨k,ns⟩,nv⟩).toArray 221 (0,0))
abbrev anG (b:Nat) (mg:ByteArray) (kd:Bool) (k:Nat):aH:=pt b (.cells (oM mg kd k) 213 (0,0))
end
end Go.Proofs.YtihngncbioofnaaGreatDoor
namespace Go.dF
open Go.ah (Bs le num kJ JK)
variable {X:Bs→Nat}{mg:Bs}{kd:Bool}{l:List Rw}{k:Nat}
end Go.dF
namespace Go.Proofs.YtihngncbioofnaaGreatDoor
open Go Go.Sl Go.ay Go.MapKept Go.RowKit
section
variable {P:Program}{w:World}{ops:Array Oper}{a:Act}{dst:Option Tmp}{t ty:TypeId}{pos:String}{after:Array Edge}{x y:Operand}{v vx vy:Value}
end
section
variable {w0 w:World}{F:List aH}{rv lv bv:Value}{p:Nat}
theorem aey (us:List Rep.Use) (hok:dF.Ok 3 false (us.map Rep.lH)) (hr:Ro w0 F (bG 3 lv (us.flatMap bT))) (h:Sat w0 w F) :
  Calls Tryz.prog 80 #[lv] w (aP fun v w'=>∃ bv,v = .tuple #[bv,errno 0]∧Sat w0 w' (jk bv (dF.book Xx.sum dF.AP false (us.map Rep.lH))::F)):=by
 have hn:us.length≤65536:=by have:=hok.len;rwa [abl]at this
 skip
 obtain ⟨la,lc,rfl⟩:=jl (fun u _=>DK u) (hr w h) aN;have c1:¬ (65536:Int)<(us.length:Int):=oQ;have Hr:=uQ hr;have dw:=uQ hok;have Hn:=uQ hn;clear hr hok hn;go_enter Tryz.func80,Tryz.ntmps80;go_wp2_with fail;refine (amG h).mono ?_;rintro ee w1 ⟨v,rfl,rfl,h1⟩;clear h;go_wp2_with fail;refine (aji us Hn.out Hr.out h1).mono ?_;rintro ee w2 ⟨ov,rfl,rs,hrs,h2⟩;clear h1;have sD:=uQ hrs;have hkey:∀ r∈rs,r.x.key.length=32∧0<r.x.nums.length:=fun r hr=>by
  have h1:r.x∈us.map Rep.lH:=by rw [← hrs];exact List.mem_map_of_mem hr
  have:=dw.out.row r.x h1;exact ⟨this.key,by rw [this.len];decide⟩
 have iM:=uQ hkey;clear hrs hkey;go_wp2_with fail;refine (Vr ⟨#[72,79,65,82,68,85,83,69]⟩ dF.AP rfl rfl false 3 aN rs (by rw [sD.out];exact dw.out) (fun w hw=>Sat.rd hw) (fun r hr=>(ZH hr (iM.out r hr).1 (iM.out r hr).2).sub pV) h2).mono ?_;rintro ee w3 ⟨v,rfl,bv,rfl,h3⟩;rw [sD.out]at h3;clear h2;go_wp2_with fail
 go_ret2
 exact ⟨_,rfl,bv,rfl,h3.sb⟩
theorem aeu (us:List (ah.Bs×Seg.aU)) (hk:∀ q∈us,q.1.length=32) (hok:dF.Ok 3 true (us.map Rep.lF)) (hr:Ro w0 F (bG 35 lv (us.flatMap jX))) (h:Sat w0 w F) :
  Calls Tryz.prog 78 #[lv] w (aP fun v w'=>∃ bv,v = .tuple #[bv,errno 0]∧Sat w0 w' (jk bv (dF.book Xx.sum dF.AO true (us.map Rep.lF))::F)):=by
 have hn:us.length≤65536:=by have:=hok.len;rwa [abl]at this
 have Hk:=uQ hk;obtain ⟨la,lc,rfl⟩:=jl (fun u hu=>rD u (Hk.out u hu)) (hr w h) aN;have c1:¬ (65536:Int)<(us.length:Int):=oQ;have Hr:=uQ hr;have dw:=uQ hok;have Hn:=uQ hn;clear hr hok hn;go_enter Tryz.func78,Tryz.ntmps78;go_wp2_with fail;refine (ahr h).mono ?_;rintro ee w1 ⟨v,rfl,rfl,h1⟩;clear h;go_wp2_with fail;refine (ajh us Hn.out Hk.out Hr.out h1).mono ?_;rintro ee w2 ⟨ov,rfl,rs,hrs,h2⟩;clear h1;have sD:=uQ hrs;have hkey:∀ r∈rs,r.x.key.length=32∧0<r.x.nums.length:=fun r hr=>by
  have h1:r.x∈us.map Rep.lF:=by rw [← hrs];exact List.mem_map_of_mem hr
  have:=dw.out.row r.x h1;exact ⟨this.key,by rw [this.len];decide⟩
 have iM:=uQ hkey;clear hrs hkey;go_wp2_with fail;refine (Vr ⟨#[72,79,65,82,68,73,68,88]⟩ dF.AO rfl rfl true 3 aN rs (by rw [sD.out];exact dw.out) (fun w hw=>Sat.rd hw) (fun r hr=>(ZH hr (iM.out r hr).1 (iM.out r hr).2).sub pV) h2).mono ?_;rintro ee w3 ⟨v,rfl,bv,rfl,h3⟩;rw [sD.out]at h3;clear h2;go_wp2_with fail
 go_ret2
 exact ⟨_,rfl,bv,rfl,h3.sb⟩
end
section
variable {w0 w:World}{F:List aH}{rv lv bv nv:Value}{p:Nat}
theorem aaV (a b c:Int) (w:World):(Instr.build 94 #[(0,.int .i64 a),(1,.int .i64 b),(2,.int .i64 c)]).run Tryz.prog w = .ok (.agg (aS ⟨a,b,c⟩).toArray) w:=by kernel_rfl
end
def dK (bg:List (Value×List Int)):aH:=stars (bg.map fun p=>aB 3 1 p.1 (ints p.2))
abbrev dM (p:Nat) (N:Int) (lv:Value) (kp ip gb:Nat):aH:=pt p (.cells #[.int .i64 N,lv,ptr kp,ptr ip,.map (some gb)] 144 (0,0))
def lN (mm:ah.Bs→Option Rep.iw) (mk:ah.Bs→Option aO.Kv) (bg:List (Value×List Int)):Prop:=
 ∀ k,∃ a n c,(mm k).getD nO=⟨a,n,c,(aO.iG mk k).2⟩∧((.slice a n c,(aO.iG mk k).1)∈bg∨(aO.iG mk k).1=[]∧a=none∧n=0∧c=0)
theorem qZ {P:Program}{ops:Array Oper}{Q:Exit→Act→World→Prop}{a:Act}{w:World}{b:Bool} (id:Nat) (h:Stop ((Code.region id ops b).wp P Q a w)):(Code.region id ops b).wp P Q a w:=h.out
theorem ab3 {P:Program}{ops:Array Oper}{Q:Exit→Act→World→Prop}{rest:List Oper}{a:Act}{w:World}{dst:Option Nat}{ty t:TypeId}{pos:String}{after:Array Edge}{x y z:Operand}{vx vy vz v:Value} (hx:a.eval x=vx) (hy:a.eval y=vy) (hz:a.eval z=vz) (hr:∀ w,(Instr.build ty #[(0,vx),(1,vy),(2,vz)]).run P w = .ok v w) (h:wpList P ops Q rest (a.put dst v) w) :
  wpList P ops Q (⟨dst,.build ty #[(0,x),(1,y),(2,z)],t,pos,after,none⟩::rest) a w:=
 yY (by simp only [aes,acS,adw,hx,hy,hz]) hr h
section
variable {w0 w:World}{F:List aH}{bg:List (Value×List Int)}{q:Value×List Int}{mm:ah.Bs→Option Rep.iw}{mk:ah.Bs→Option aO.Kv}{xs:List Value}{iv:Value}
theorem ael (h:Sat w0 w (aB 3 1 q.1 (ints q.2)::dK bg::F)):Sat w0 w (dK (q::bg)::F):=Sat.star.2 h
theorem Vj (hq:q∈bg) (h:Sat w0 w (dK bg::F)):bG 1 q.1 (ints q.2) w:=by
 obtain ⟨G,hG⟩:=KG (bg.map fun p=>aB 3 1 p.1 (ints p.2)) _ (abZ.2 ⟨q,hq,rfl⟩);unfold dK at h;rw [hG]at h;exact Sat.rd (Sat.star.1 h)
theorem lN.new:lN (fun _=>none) (fun _=>none) bg:=fun k=>⟨none,0,0,rfl,.inr ⟨rfl,rfl,rfl,rfl⟩⟩
theorem lN.put {k:ah.Bs}{a:Option Addr}{n c:Nat}{l:List Int}{pl:Seg.aU} (h:lN mm mk bg) (hs:(Value.slice a n c,l)∈bg∨l=[]∧a=none∧n=0∧c=0):lN (Tab.put mm k ⟨a,n,c,pl⟩) (Tab.put mk k (l,pl)) bg:=fun j=>by
 unfold Tab.put aO.iG;by_cases hj:j=k
 ·simp only [acr hj,anW];exact ⟨a,n,c,rfl,hs⟩
 ·simp only [abA hj];exact h j
theorem lN.more (h:lN mm mk bg):lN mm mk (q::bg):=fun k=>by
 obtain ⟨a,n,c,h1,h2⟩:=h k;exact ⟨a,n,c,h1,h2.imp (.tail _) id⟩
theorem aeM (h1:∀ u∈xs,u.oneCell'=true) (hl:xs.length≤2147483648) (hr:Ro w0 F (bG 1 iv xs)) (h:Sat w0 w F) :
  Calls Tryz.prog 162 #[iv] w (aP fun v w'=>Sat w0 w' (aB 3 1 v xs::F)):=by
 have H1:=uQ h1;have Hl:=uQ hl;obtain ⟨a,n,c,rfl,hn,hcs⟩:=hr w h;have Hr:=uQ hr;clear h1 hl hr;cases a with
 |none=>
  have hx:xs=[]:=by
   cases xs with
   |nil=>rfl
   |cons x xs=>obtain ⟨_,e,_⟩:=hcs 0 x rfl;cases e
  subst hx;obtain rfl:n=0:=by simp only [adF]at hn;omega
  have he:∀ w,(binOp .eql 29 (.slice none 0 c) (.slice none 0 0)).run Tryz.prog w = .ok (.bool true) w:=fun w=>by first|kernel_rfl|rfl
  go_enter Tryz.func162,Tryz.ntmps162;go_wp2_with fail;go_ret;exact ⟨_,rfl,Sat.gI.2 h⟩
 |some ad=>
  clear hn hcs;have he:∀ w,(binOp .eql 29 (.slice (some ad) n c) (.slice none 0 0)).run Tryz.prog w = .ok (.bool false) w:=fun w=>by first|kernel_rfl|rfl
  go_enter Tryz.func162,Tryz.ntmps162
  go_wp2_with (first
   |((with_reducible refine Np ⟨?_⟩);refine SX (e:=3) (sz:=1) (eY:=8) au h ?_;intro bN wN hN)
   |(with_reducible apply lX))
  refine ⟨SQ 3 1 8 au hN aj aj aV (Hr.out _ hN.drop) H1.out (by have:=Hl.out;simp only [adF];omega) aN ?_⟩;intro v' w' hS;rw [adl]at hS;go_wp2_with fail;go_ret;exact ⟨_,rfl,hS.sb⟩
theorem ae8 {p kp ip gb B:Nat}{N s:Int}{lv:Value}{f:ah.dA}{da:Option Addr}{dn dc:Nat} (hk:f.e.key.length=32) (hB:B≤13000000) (hko:lN mm mk bg) (hln:∀ k,(aO.iG mk k).1.length≤1048576)
  (h:Sat w0 w (dM p N lv kp ip gb::dB kp mm B::dK bg::F)) :
  Calls Tryz.prog 120 #[ptr p,.int .i64 s,.agg (fU f (.slice da dn dc))] w (aP fun _ w'=>∃ Zb Vm,lN Zb (aO.Gy mk (s,f)) Vm∧Sat w0 w' (dM p N lv kp ip gb::dB kp Zb (B+1)::dK Vm::F)):=by
 have Hk:=uQ hk;have iD:=uQ (show (aA f.e.key).length=32 by rw [aX,hk]);have HB:=uQ hB;obtain ⟨ka,kn,kc,hk1,hk2⟩:=hko f.e.key;have HT:=uQ (fun (w':World) (R:List aH) (hw:Sat w0 w' (dB kp mm B::R))=>Xf (k:=f.e.key) (acz hB aN) hk hw);rw [hk1]at HT;have iM:=uQ hko;have jJ:=uQ (hln f.e.key);have Hq:=uQ hk2;generalize (mm f.e.key).isSome=ok at *
 have e0:(fU f (.slice da dn dc))[0]?=some (.int .i64 f.e.tag):=rfl;obtain ⟨e34,e35,l7⟩:=E8 f (.slice da dn dc) hk;clear hk hB hko hln hk1 hk2;go_enter Tryz.func120,Tryz.ntmps120;go_wp2_with (with_reducible apply fK);refine ⟨fM h ak ak ?_⟩;intro b5 w5 h5;clear h;have h6:Sat w0 w5.drew (pt b5 (.cells (fU f (.slice da dn dc)) 54 (0,0))::dM p N lv kp ip gb::dB kp mm B::dK bg::F):=h5.drew;clear h5;go_wp2_with fail;refine dS [7,8,9,10,12,13] (fun w'=>w'.cell? ⟨p,2,none⟩=some (.pointer (some ⟨kp,0,none⟩))∧w'.rangeAt b5 1 (aA f.e.key)) au ?_;have hG:World.cell? _ ⟨p,2,none⟩=some (.pointer (some ⟨kp,0,none⟩))∧World.rangeAt _ b5 1 (aA f.e.key):=⟨h6.cellP aY 2 rfl,fun j v hj=>h6.cellP aV (1+j) (l7 j v hj)⟩;refine rP 0 ?_ (y:=aZ);refine rP 1 ?_ (y:=dV);refine rP 2 ?_ (y:=bW);refine rt 3 (h:=?_);refine rP 4 ?_ (y:=bW);refine rP 5 ?_ (y:=bW)
 refine gV 6 ak au eU (iI (b:=b5) (o:=1) (aA f.e.key) aj Tryz.underlying50 rfl (by rw [iD.out];kernel_rfl) (fun w hw=>hw.2)) aQ gQ ?_;clear hG;refine rU 7 11 ak ak au (fun K hK=>?_) (fun K hK=>?_)
 focus
  (refine gZ au ak ak ?_)
  refine (HT.out _ _ (h6.sb:Sat w0 _ (dB kp mm B::pt b5 (.cells (fU f (.slice da dn dc)) 54 (0,0))::dM p N lv kp ip gb::dK bg::F))).mono ?_;rintro ee w7 ⟨v,rfl,rfl,h7⟩;refine hK _ _ (.inl rfl) ?_;clear hK h6;refine rP 8 ?_ (y:=aZ);refine rP 9 ?_ (y:=(fC ak bU));refine rP 10 ?_ (y:=(fC ak bU));refine bY 11 ak au (fun K hK=>?_);refine lZ (D6) h7 rfl ?_;intro b6 w8 h8;refine hK _ _ (.inr (.inl ⟨h8.cellP iJ 2 rfl,fun j v hj=>h8.cellP eH (1+j) (l7 j v hj)⟩)) ?_;clear hK h7
 rotate_left
 focus
  refine lZ (D6) h6 rfl ?_;intro b6 w7 h7;refine hK _ _ (.inr (.inl ⟨h7.cellP eH 2 rfl,fun j v hj=>h7.cellP aY (1+j) (l7 j v hj)⟩)) ?_;clear hK h6;refine bY 7 ak au (fun K hK=>?_)
  (refine gZ au ak ak ?_)
  refine (HT.out _ _ (h7.sb:Sat w0 _ (dB kp mm B::pt b6 (.cells (dD nO).toArray 202 (0,0))::pt b5 (.cells (fU f (.slice da dn dc)) 54 (0,0))::dM p N lv kp ip gb::dK bg::F))).mono ?_;rintro ee w8 ⟨v,rfl,rfl,h8'⟩;refine hK _ _ (.inl rfl) ?_;clear hK h7;have h8:Sat w0 w8 (pt b6 (.cells (dD nO).toArray 202 (0,0))::dB kp mm B::pt b5 (.cells (fU f (.slice da dn dc)) 54 (0,0))::dM p N lv kp ip gb::dK bg::F):=h8'.sb;clear h8';refine rP 8 ?_ (y:=aZ);refine rP 9 ?_ (y:=(fC ak bU));refine rP 10 ?_ (y:=(fC ak bU))
 all_goals
  refine bY 12 ak au (fun K hK=>?_);refine kW (cs':=(dD ⟨ka,kn,kc,(aO.iG mk f.e.key).2⟩).toArray) h8 ak ak aj cZ bJ au aj ?_;intro w9 h9;refine hK _ _ (.inl rfl) ?_;clear hK h8;refine rP 13 ?_ (y:=fZ);refine dI au ?_
  try simp only [jT]
  try go_frame
  have f0:w9.cell? ⟨b5,0,none⟩=some (.int .i64 f.e.tag):=h9.cellP eH 0 e0;have f1:w9.cell? ⟨b6,0,none⟩=some (.slice ka kn kc):=h9.cellP aV 0 rfl;have f34:w9.cell? ⟨b5,34,none⟩=some (.int .i64 f.at_):=h9.cellP eH 34 e34;have f35:w9.cell? ⟨b5,35,none⟩=some (.int .i64 f.size):=h9.cellP eH 35 e35;obtain ⟨c,hc⟩:∃ c,(aO.iG mk f.e.key).1=c:=⟨_,rfl⟩;rw [hc]at Hq jJ;have Hc:=uQ hc;generalize (aO.iG mk f.e.key).2=pl0 at *
  clear hc HT;by_cases ht:f.e.tag=0;rotate_left
  focus
   have hb:(f.e.tag==0)=false:=by rw [acH];exact ht
   have hD:=uQ (show ∃ ra rn rc kV,(lN mm mk kV∧((Value.slice ra rn rc,aO.oN (aO.iG mk f.e.key).1 s f.e.tag)∈kV∨aO.oN (aO.iG mk f.e.key).1 s f.e.tag=[]∧ra=none∧rn=0∧rc=0))∧Sat w0 _ (pt b6 (.cells (dD ⟨ra,rn,rc,pl0⟩).toArray 202 (0,0))::dB kp mm B::pt b5 (.cells (fU f (.slice da dn dc)) 54 (0,0))::dM p N lv kp ip gb::dK kV::F) from ⟨ka,kn,kc,bg,⟨iM.out,by rw [Hc.out,show aO.oN c s f.e.tag=c from abA (fun q=>ht q.1)];exact Hq.out⟩,h9⟩);clear ht h9
   repeat (first|go_skip|(with_reducible apply qZ 4)|go_values|go_guarded|go_step|go_upon)
  rotate_left
  focus
   have hb:(f.e.tag==0)=true:=ai7.2 ht
   have vH:=uQ (show ∀ (w':World) (R:List aH),Sat w0 w' (dK bg::R)→bG 1 (.slice ka kn kc) (ints c) w' from fun w' R hw=>by
    rcases Hq.out with q|⟨q1,q2,q3,q4⟩
    ·exact Vj q hw
    ·rw [q1,q2,q3,q4];exact wG 1 0 w')
   have hrd:=vH.out _ _ (h9.sb:Sat w0 w9 (dK bg::F));by_cases hs:c.getLast?=some s
   focus
    have hD:=uQ (show ∃ ra rn rc kV,(lN mm mk kV∧((Value.slice ra rn rc,aO.oN (aO.iG mk f.e.key).1 s f.e.tag)∈kV∨aO.oN (aO.iG mk f.e.key).1 s f.e.tag=[]∧ra=none∧rn=0∧rc=0))∧Sat w0 _ (pt b6 (.cells (dD ⟨ra,rn,rc,pl0⟩).toArray 202 (0,0))::dB kp mm B::pt b5 (.cells (fU f (.slice da dn dc)) 54 (0,0))::dM p N lv kp ip gb::dK kV::F) from ⟨ka,kn,kc,bg,⟨iM.out,by rw [Hc.out,show aO.oN c s f.e.tag=c from abA (fun q=>q.2 hs)];exact Hq.out⟩,h9⟩);have hpos:0<c.length:=amK.2 (by intro e;rw [e]at hs;cases hs);obtain ⟨bk,off,cc,e,hcell⟩:=sU hrd (show c[c.length - 1]?=some s by rw [← adv];exact hs);cases e;have hne:((c.length:Int)==0)=false:=by rw [acH];omega
    have hnq:(s != s)=false:=bne_self_eq_false ..;have hwl:IntKind.i64.wrap ((c.length:Int) - 1)=((c.length - 1:Nat):Int):=by rw [acC _ (by have:=jJ.out;omega)];omega
    have hi0:(0:Int)≤((c.length - 1:Nat):Int):=oQ;have hi1:((c.length - 1:Nat):Int)<(c.length:Int):=oQ;have hi2:c.length - 1<c.length:=oQ;clear ht h9 hrd hs hpos
    repeat (first|go_skip|(with_reducible apply qZ 4)|go_values|go_guarded|go_step|go_upon)
   rotate_left
   focus
    have MS:=uQ (show aO.oN c s f.e.tag=c++[s] from acr ⟨ht,hs⟩);have TI:=uQ h9;rcases c with _|⟨x,xs⟩
    focus
     obtain ⟨aa,nn,cc,e1,e2,e3⟩:=hrd;cases e1;obtain rfl:kn=0:=by unfold ints at e2;rw [adw,adF]at e2;omega
     clear ht h9 hs e2 e3
     repeat (first|go_skip|(with_reducible apply qZ 3)|go_values|go_guarded|go_step|go_upon)
    rotate_left
    focus
     obtain ⟨y,hy⟩:∃ y,(x::xs)[(x::xs).length - 1]?=some y:=⟨_,aaI (by simp)⟩;have hys:(y != s)=true:=by
      rw [agL];intro e;rw [e,← adv]at hy;exact hs hy
     obtain ⟨bk,off,cc,e,hcell⟩:=sU hrd hy;cases e;have hpos:0<(x::xs).length:=Nat.succ_pos _;generalize x::xs=c at *
     have hne:((c.length:Int)==0)=false:=by rw [acH];omega
     have hwl:IntKind.i64.wrap ((c.length:Int) - 1)=((c.length - 1:Nat):Int):=by rw [acC _ (by have:=jJ.out;omega)];omega
     have hi0:(0:Int)≤((c.length - 1:Nat):Int):=oQ;have hi1:((c.length - 1:Nat):Int)<(c.length:Int):=oQ;have hi2:c.length - 1<c.length:=oQ;clear ht h9 hrd hs hpos hy
     repeat (first|go_skip|(with_reducible apply qZ 3)|go_values|go_guarded|go_step|go_upon)
    all_goals
     refine ⟨?_⟩;obtain ⟨c,ka,kn,kc,Hc,jJ,MS,vH,g1,h9⟩:∃ (c:List Int) (ka:Option Addr) (kn kc:Nat),Hid ((aO.iG mk f.e.key).1=c)∧Hid (c.length≤1048576)∧Hid (aO.oN c s f.e.tag=c++[s])∧Hid (∀ (w':World) (R:List aH),Sat w0 w' (dK bg::R)→bG 1 (.slice ka kn kc) (ints c) w')∧World.cell? _ ⟨b6,0,none⟩=some (.slice ka kn kc)∧Sat w0 _ (pt b6 (.cells (dD ⟨ka,kn,kc,pl0⟩).toArray 202 (0,0))::dB kp mm B::pt b5 (.cells (fU f (.slice da dn dc)) 54 (0,0))::dM p N lv kp ip gb::dK bg::F):=⟨_,_,_,_,Hc,jJ,MS,vH,f1,TI.out⟩;have fP:=uQ (fun (w':World) (G:List aH) (hw:Sat w0 w' (dK bg::G))=>aeM (xs:=ints c) (iv:= .slice ka kn kc) (fun u hu=>by unfold ints at hu;obtain ⟨z,_,rfl⟩:=abZ.1 hu;rfl) (by unfold ints;rw [abl];exact acz jJ.out aN) (fun w2 h2=>vH.out w2 G h2) hw);have jS:=uQ (show (ints c).length≤2147483648 by unfold ints;rw [abl];exact acz jJ.out aN)
     clear TI vH f1
     repeat (first|go_skip|fail|go_values|go_guarded|go_step|go_upon)
     refine (fP.out _ _ (h9.sb:Sat w0 _ (dK bg::pt b6 (.cells (dD ⟨ka,kn,kc,pl0⟩).toArray 202 (0,0))::dB kp mm B::pt b5 (.cells (fU f (.slice da dn dc)) 54 (0,0))::dM p N lv kp ip gb::F))).mono ?_;rintro ee wA ⟨v,rfl,hA⟩;clear g1 h9;dsimp only
     repeat (first|go_skip|(with_reducible apply pI)|go_values|go_guarded|go_step|go_upon)
     refine ⟨o7 (e:=3) (sz:=1) (eY:=8) au hA (v:= .int .i64 s) rfl (cs:=#[.int .i64 s]) rfl rfl bJ ?_⟩;intro bN wN hN;clear hA
     repeat (first|go_skip|(with_reducible apply lX)|go_values|go_guarded|go_step|go_upon)
     refine ⟨pW 3 1 8 au hN aj aj aY aV rfl (abL 1) rfl jS.out bJ bJ (ys:=ints [s]) rfl ?_⟩;intro bA nA cA wB hB;clear hN
     repeat (first|go_skip|(with_reducible apply cO)|go_values|go_guarded|go_step|go_upon)
     refine ⟨fG (cs':=(dD ⟨some ⟨bA,0,none⟩,nA,cA,pl0⟩).toArray) hB aj ak aj (jh (jh cZ)) bJ au aj ?_⟩;intro wE hE;clear hB
     have hD:=uQ (show ∃ ra rn rc kV,(lN mm mk kV∧((Value.slice ra rn rc,aO.oN (aO.iG mk f.e.key).1 s f.e.tag)∈kV∨aO.oN (aO.iG mk f.e.key).1 s f.e.tag=[]∧ra=none∧rn=0∧rc=0))∧Sat w0 _ (pt b6 (.cells (dD ⟨ra,rn,rc,pl0⟩).toArray 202 (0,0))::dB kp mm B::pt b5 (.cells (fU f (.slice da dn dc)) 54 (0,0))::dM p N lv kp ip gb::dK kV::F) from ⟨_,_,_,(Value.slice (some ⟨bA,0,none⟩) nA cA,c++[s])::bg,⟨iM.out.more,.inl (by rw [Hc.out,MS.out];exact List.mem_cons_self ..)⟩,by
      have h1:Sat w0 wE (aB 3 1 (.slice (some ⟨bA,0,none⟩) nA cA) (ints (c++[s]))::dK bg::pt b6 (.cells (dD ⟨some ⟨bA,0,none⟩,nA,cA,pl0⟩).toArray 202 (0,0))::dB kp mm B::pt b5 (.cells (fU f (.slice da dn dc)) 54 (0,0))::dM p N lv kp ip gb::F):=by
       have e:ints c++ints [s]=ints (c++[s]):=by unfold ints;rw [acI]
       rw [← e];exact hE.sb
      exact (ael (q:=(Value.slice (some ⟨bA,0,none⟩) nA cA,c++[s])) h1).sb⟩)
     clear hE
     repeat (first|go_skip|(with_reducible apply qZ 4)|go_values|go_guarded|go_step|go_upon)
  all_goals
   refine ⟨?_⟩;obtain ⟨ra,rn,rc,kV,hq2,hS⟩:=hD.out;have Eu:=uQ hq2;have g34:=hS.cellP eH 34 e34;have g35:=hS.cellP eH 35 e35;clear hD hq2
   repeat (first|go_skip|(with_reducible apply yR)|go_values|go_guarded|go_step|go_upon)
   refine ⟨ab3 ak ak ak (fun w=>aaV s f.at_ f.size w) ?_⟩
   repeat (first|go_skip|(with_reducible apply cO)|go_values|go_guarded|go_step|go_upon)
   refine ⟨fG (cs':=(dD ⟨ra,rn,rc,⟨s,f.at_,f.size⟩⟩).toArray) hS aj ak aj cZ bJ au aj ?_⟩;intro wS hT;clear hS g34 g35
   repeat (first|go_skip|(with_reducible apply qZ 5)|go_values|go_guarded|go_step|go_upon)
   refine ⟨?_⟩;have hG:World.cell? _ ⟨p,2,none⟩=some (.pointer (some ⟨kp,0,none⟩))∧World.rangeAt _ b5 1 (aA f.e.key)∧World.rangeAt _ b6 0 (dD ⟨ra,rn,rc,⟨s,f.at_,f.size⟩⟩):=⟨hT.cellP iJ 2 rfl,fun j v hj=>hT.cellP eH (1+j) (l7 j v hj),fun j v hj=>hT.cellP aV (0+j) (by rw [acT,abY];exact hj)⟩;refine dS [8] (fun w'=>w'.cell? ⟨p,2,none⟩=some (.pointer (some ⟨kp,0,none⟩))∧w'.rangeAt b5 1 (aA f.e.key)∧w'.rangeAt b6 0 (dD ⟨ra,rn,rc,⟨s,f.at_,f.size⟩⟩)) au ?_;refine rP 0 ?_ (y:=aZ);refine rP 1 ?_ (y:=dV);refine rP 2 ?_ (y:=bW);refine rt 3 (h:=?_);refine rP 4 ?_ (y:=bW);refine rP 5 ?_ (y:=bW);refine gV 6 ak au eU (iI (b:=b5) (o:=1) (aA f.e.key) aj Tryz.underlying50 rfl (by rw [iD.out];kernel_rfl) (fun w hw=>hw.2.1)) aQ gQ ?_
   refine gV 7 ak au eU (iI (b:=b6) (o:=0) (dD ⟨ra,rn,rc,⟨s,f.at_,f.size⟩⟩) aj Tryz.underlying202 rfl au (fun w hw=>hw.2.2)) aQ gQ ?_;clear hG;refine bY 8 ak au (fun K hK=>?_)
   (refine xM au ak ak ak ?_)
   refine (ajs (acz HB.out aN) Hk.out ⟨ra,rn,rc,⟨s,f.at_,f.size⟩⟩ (hT.drew.sb:Sat w0 _ (dB kp mm B::pt b6 (.cells (dD ⟨ra,rn,rc,⟨s,f.at_,f.size⟩⟩).toArray 202 (0,0))::pt b5 (.cells (fU f (.slice da dn dc)) 54 (0,0))::dM p N lv kp ip gb::dK kV::F))).mono ?_;rintro ee wU ⟨v,rfl,hU⟩;refine hK _ _ (.inl rfl) ?_;clear hK hT;refine dI au ?_;go_wp2_with fail
   (try simp only [Exit.inBlock,Exit.then]);refine bodyPost_ret (results_none rfl _ _ _) rfl ?_
   refine ⟨_,rfl,_,_,?_,hU.sb⟩;have h1:=lN.put (k:=f.e.key) (pl:=⟨s,f.at_,f.size⟩) Eu.out.1 Eu.out.2;exact h1
end
section
variable {w0 w:World}{F:List aH}{p q m d K i:Nat}{L:Seg.Log}{M D:ay}{tv:Value}
theorem aft (t:List Int) (htl:t.length≤1048576) (hL:L.Ok) (hM:M.Ok K) (hK:K≤1048576) (hr:Ro w0 F (bG 1 tv (ints t))) (h:Sat w0 w (aK p m L::aJ m M::F)) :
  Calls Tryz.prog 58 #[ptr p,tv] w (aP fun v w'=>v=errno (Seg.Log.drop t t.length L M).2∧Sat w0 w' (aK p m (Seg.Log.drop t t.length L M).1.1::aJ m (Seg.Log.drop t t.length L M).1.2::F)):=by
 obtain ⟨ta,tc,rfl⟩:=FN (hr w h.drop.drop);have Hr:=uQ hr;have qY:=uQ htl;have HK:=uQ hK;have w1:IntKind.i64.wrap ((t.length:Int) - 1)=(t.length:Int) - 1:=acC _ oQ;have H0:=uQ (show L.Ok∧M.Ok K from ⟨hL,hM⟩);clear hr htl hK hL hM;go_enter Tryz.func58,Tryz.ntmps58;go_wp2_with fail
 go_loopg [5] t.length (fun g iq wr=>∃ (k:Nat) (L':Seg.Log) (M':ay),g=0+k∧k≤t.length∧iq = .int .i64 ((k:Int) - 1)∧Seg.Log.drop t t.length L M=Seg.Log.drop t k L' M'∧L'.Ok∧M'.Ok (K+(t.length - k))∧Sat w0 wr (aK p m L'::aJ m M'::F))
 case atStart=>exact ⟨t.length,L,M,(acT _).symm,abL _,rfl,rfl,H0.out.1,H0.out.2.mono (Nat.le_add_right _ _),h⟩
 case round=>
  obtain ⟨k,L',M',rfl,hk,rfl,he,hL,hM,hS⟩:=hrel;clear h;cases k with
  |zero=>
   have c1:¬ (((0:Nat):Int) - 1)≥0:=by decide
   have He:=uQ he;have HM:=uQ hM;have HL:=uQ hL;clear he hL hM hk;by_cases ht:t=[]
   ·have hb:((t.length:Int)==0)=true:=by rw [ht];rfl
    have Hf:=uQ (Seg.drop_nil (L:=L') (M:=M') ht);clear ht;go_wp2_with fail;go_ret;rw [He.out,Hf.out];exact ⟨_,rfl,rfl,hS⟩
   ·have hb:((t.length:Int)==0)=false:=by
     rw [acH];intro e;exact ht (agl oQ)
    have Hf:=uQ (Seg.drop_end (L:=L') (M:=M') ht);clear ht;go_wp2_with fail;refine (YZ HM.out hS).mono ?_;rintro ee w2 ⟨v,rfl,rfl,hS2⟩;clear hS;go_wp2_with fail;go_ret;rw [He.out,Hf.out];exact ⟨_,rfl,rfl,hS2⟩
  |succ k=>
   have e1:((k+1:Nat):Int) - 1=(k:Int):=oQ;rw [e1];have c1:(k:Int)≥0:=oQ;have c2:(k:Int)<(t.length:Int):=oQ;have w2:IntKind.i64.wrap ((k:Int) - 1)=(k:Int) - 1:=acC _ (by have:=qY.out;omega);obtain ⟨s,hs⟩:∃ s,t[k]?=some s:=⟨_,aaI oQ⟩;have hgd:t.getD k 0=s:=by rw [List.getD,hs];rfl
   obtain ⟨bk,off,cc,e2,c0⟩:=sU (Hr.out _ hS.drop.drop) hs;cases e2;have hrm:=Px hL hM (by have:=HK.out;have:=qY.out;omega) s hS;have He:=uQ he;have Hk:=uQ hk;have iP:=hL.remove M' s;have OG:=Seg.J4 (L:=L') hM s;have L6:=uQ (fun (h0:(L'.remove M' s).2=0)=>Seg.afu (t:=t) (L:=L') (M:=M') (k:=k) (by rw [hgd];exact h0));have Hno:=uQ (fun (h0:(L'.remove M' s).2≠0)=>Seg.afv (t:=t) (L:=L') (M:=M') (k:=k) (by rw [hgd];exact h0));rw [hgd]at L6 Hno;clear he hk hs hgd hL hM hS;generalize L'.remove M' s=r at *
   obtain ⟨⟨L2,M2⟩,e⟩:=r;dsimp only at hrm iP OG L6 Hno;have ac6:=uQ iP;have ac8:=uQ OG;clear iP OG;go_wp2_with fail;refine hrm.mono ?_;rintro ee w3 ⟨v,rfl,rfl,hS3⟩;clear hrm c0;by_cases h0:e=0
   ·subst h0;have Hf:=uQ (L6.out rfl);go_wp2_with fail
    go_roundg (0+k)
    case measure=>omega
    case rel=>exact ⟨k,L2,M2,rfl,Nat.le_of_succ_le Hk.out,by first|rfl|go_num,He.out.trans Hf.out,ac6.out,ac8.out.mono (by have:=Hk.out;omega),hS3⟩
   ·have hb:(e != 0)=true:=by rw [agL];exact h0
    have hb2:(e==0)=false:=by rw [acH];exact h0
    have Hf:=uQ (Hno.out h0);clear h0;go_wp2_with fail;go_ret;rw [He.out,Hf.out];exact ⟨_,rfl,rfl,hS3⟩
end
abbrev aW (r m:Nat) (seg:Int) (p ps pn:Nat) (d:Bool):aH:=pt r (.cells #[ptr m,.int .i64 seg,ptr p,ptr ps,ptr pn,.bool d] 91 (0,0))
section
variable {w0 w:World}{F:List aH}{p m K r ps pn:Nat}{L:Seg.Log}{M:ay}{limit:Int}
theorem aiy (hM:M.Ok K) (hl:M.list=[]) (h:Sat w0 w (aJ m M::F)):Calls Tryz.prog 106 #[ptr m] w (aP fun v w'=>v = .int .i64 (-1)∧Sat w0 w' (aJ m M::F)):=by
 have hls:=JB hM h;go_enter Tryz.func106,Tryz.ntmps106;go_wp2_with fail;refine hls.mono ?_;rintro e w1 ⟨v,rfl,hS,a,n,c,rfl⟩;clear hls;have hn:n=0:=by
  obtain ⟨_,_,_,he,hl2,_⟩:=Sat.rd hS;cases he;rw [hl]at hl2;simpa [strs] using hl2.symm
 subst hn;go_wp2_with fail
 go_loopg [3,11] 0 (fun g lv iq wr=>lv = .int .i64 (-1)∧iq = .int .i64 0∧wr=w1)
 case atStart=>exact ⟨rfl,rfl,rfl⟩
 case round=>
  obtain ⟨rfl,rfl,rfl⟩:=hrel;go_wp2;go_ret;exact ⟨_,rfl,rfl,hS.drop⟩
theorem akw {bt:Rep.Told}{v:Value} (h:vN w0 F bt [] p m L M v w):∃ (ps pi:Nat) (uv tv:Value),v = .tuple #[ptr ps,.agg (fA Rep.dZ.zero),errno 0]∧(∃ a c,tv = .slice a 0 c) ∧
  Sat w0 w (dh ps (-1) pi uv tv::aI pi (fun _=>none) 0::aB 45 3 uv []::aK p m L::aJ m M::F):=by
 have hr:Rep.run bt [] = .inr 0:=rfl;unfold vN at h;rw [hr]at h;obtain ⟨ps,pi,uv,tv,av,kv,rfl,⟨_,_,hk⟩,⟨⟨a',c',rfl⟩,_⟩,hS⟩:=h;obtain rfl:kv=[]:=List.length_eq_zero_iff.1 (Nat.le_zero.1 hk);exact ⟨ps,pi,uv,_,rfl,⟨a',c',rfl⟩,hS.sb⟩
theorem aga (hL:L.Ok) (hs:L.aF=[]) (hM:M.Ok K) (hl:M.list=[]) (hH:Ro w0 F Half) (h:Sat w0 w (aK p m L::aJ m M::F)) :
  Calls Tryz.prog 57 #[ptr p,ptr m] w (aP fun v w'=>∃ (ps pi:Nat) (uv tv:Value),v = .tuple #[ptr ps,.agg (fA Rep.dZ.zero),errno 0]∧(∃ a c,tv = .slice a 0 c) ∧
   Sat w0 w' (dh ps (-1) pi uv tv::aI pi (fun _=>none) 0::aB 45 3 uv []::aK p m L::aJ m M::F)):=by
 have HL:=uQ hL;have Hs:=uQ hs;have HM:=uQ hM;have Hl:=uQ hl;have HH:=uQ hH;clear hL hs hM hl hH;go_enter Tryz.func57,Tryz.ntmps57;go_wp2_with (with_reducible apply gq);refine ⟨fF qc h rfl ?_⟩;intro b5 w5 h5;have hla:=YG (F:=pt b5 (.cells (fA Rep.dZ.zero) 63 (0,0))::F) HL.out HM.out (Ro.os HH.out) (h5.sb:Sat w0 w5 (aK p m L::aJ m M::pt b5 (.cells (fA Rep.dZ.zero) 63 (0,0))::F));rw [Hs.out,show Rep.lastOf (dH L M) []=(-1,0) from rfl]at hla;clear h h5;go_wp2_with fail;refine hla.mono ?_;rintro ee w6 ⟨v,rfl,rfl,h6⟩;clear hla;go_wp2_with fail;refine (aiy HM.out Hl.out (h6.sb:Sat w0 w6 (aJ m M::aK p m L::pt b5 (.cells (fA Rep.dZ.zero) 63 (0,0))::F))).mono ?_;rintro ee w7 ⟨v,rfl,rfl,h7⟩;clear h6
 have FH:=Q5 (F:=pt b5 (.cells (fA Rep.dZ.zero) 63 (0,0))::F) HL.out HM.out (Ro.os HH.out) (by rw [Hs.out];exact acV _) (by rw [Hs.out];intro r hr;cases hr) (h7.sb:Sat w0 w7 (aK p m L::aJ m M::pt b5 (.cells (fA Rep.dZ.zero) 63 (0,0))::F));clear h7;go_wp2_with fail;refine FH.mono ?_;rintro ee w8 ⟨v,rfl,h8⟩;clear FH;rw [Hs.out]at h8;obtain ⟨ps,pi,uv,tv,rfl,AB,h9⟩:=akw h8;clear h8;have h10:Sat w0 w8 (pt b5 (.cells (fA Rep.dZ.zero) 63 (0,0))::dh ps (-1) pi uv tv::aI pi (fun _=>none) 0::aB 45 3 uv []::aK p m L::aJ m M::F):=h9.sb;clear h9;go_wp2_with ((with_reducible refine cO ⟨?_⟩);refine gJ (fA Rep.dZ.zero) h10 aj aj aj cZ au aj ?_;intro iV h11);refine ⟨rfl,_,Bo rfl h11 aj aV Tryz.underlying63 rfl au,_,rfl,ps,pi,uv,tv,rfl,AB,h11.drop⟩
theorem aje:rM Tryz.prog 91=some [(0,1),(1,1),(2,1),(3,1),(4,1),(5,1)]:=by kernel_rfl
theorem ang:jr Tryz.prog 91=some (.agg #[.pointer none,.int .i64 0,.pointer none,.pointer none,.pointer none,.bool false]):=by kernel_rfl
theorem akS (seg:Int) (w:World):(Instr.build 91 #[(0,ptr m),(1,.int .i64 seg),(2,ptr p),(3,ptr ps),(4,ptr pn)]).run Tryz.prog w = .ok (.agg #[ptr m,.int .i64 seg,ptr p,ptr ps,ptr pn,.bool false]) w:=
 aod (P:=Tryz.prog) [(0,ptr m),(1,.int .i64 seg),(2,ptr p),(3,ptr ps),(4,ptr pn)] aje ang (by
  intro q hq;simp only [acK,ag0,aoj]at hq;rcases hq with rfl|rfl|rfl|rfl|rfl
  ·exact ⟨0,rfl,by show 0+1≤6;decide⟩
  ·exact ⟨1,rfl,by show 1+1≤6;decide⟩
  ·exact ⟨2,rfl,by show 2+1≤6;decide⟩
  ·exact ⟨3,rfl,by show 3+1≤6;decide⟩
  ·exact ⟨4,rfl,by show 4+1≤6;decide⟩) w
theorem aax {ι:Type}{N:Int} (mi:ι→ah.Bs→Option Seg.aU) (Bf:ι→Nat) (uf:ι→List Rep.Use) (Q:ι→Prop) (h1:128≤limit) (h2:limit≤1048576) (hM:M.Ok K) (hK:K≤1048576) (ha:Seg.alive M=0) (hB:∀ x,Q x→Bf x≤14000000)
  (hfd:∀ (p b5:Nat) (w':World),Sat w0 w' (aK p m (Seg.fresh M limit)::aJ m M::pt b5 (.cells (fA Rep.dZ.zero) 63 (0,0))::F)→Calls Tryz.prog 57 #[ptr p,ptr m] w' (aP fun v w''=>∃ (ps pi:Nat) (uv tv:Value) (x:ι),v = .tuple #[ptr ps,.agg (fA Rep.dZ.zero),errno 0]∧(∃ a c,tv = .slice a 0 c)∧Q x ∧
   Sat w0 w'' (dh ps N pi uv tv::aI pi (mi x) (Bf x)::aB 45 3 uv ((uf x).flatMap bT)::aK p m (Seg.fresh M limit)::aJ m M::pt b5 (.cells (fA Rep.dZ.zero) 63 (0,0))::F)))
  (h:Sat w0 w (aJ m M::F)) :
  Calls Tryz.prog 19 #[ptr m,.int .i64 limit] w (aP fun v w'=>∃ (r p ps pi pn:Nat) (uv:Value) (x:ι),v = .tuple #[ptr r,.agg (fA Rep.dZ.zero),errno 0]∧Q x ∧
   Sat w0 w' (aW r m limit p ps pn false::dh ps N pi uv (.slice none 0 0)::aI pn (mi x) (Bf x)::aI pi (mi x) (Bf x)::aB 45 3 uv ((uf x).flatMap bT)::aK p m (Seg.fresh M limit)::aJ m M::F)):=by
 have HL:=uQ (Seg.Jf hM limit h1 h2);have Hop:=uQ (fun (w':World) (R:List aH) (hw:Sat w0 w' (aJ m M::R))=>ai0 hM limit hw ha h1 h2);generalize Seg.fresh M limit=L at *
 have HM:=uQ hM;have HK:=uQ hK;have HB:=uQ hB;have Hfd:=uQ hfd;clear h1 h2 hM hK ha hB hfd;go_enter Tryz.func19,Tryz.ntmps19;go_wp2_with (with_reducible apply gq);refine ⟨fF qc h rfl ?_⟩;intro b5 w5 h5;go_wp2_with fail;refine (Hop.out _ _ (h5.sb:Sat w0 w5 (aJ m M::pt b5 (.cells (fA Rep.dZ.zero) 63 (0,0))::F))).mono ?_;rintro ee w6 ⟨v,rfl,p,rfl,h6⟩;clear h h5;go_wp2_with fail;refine (Hfd.out p b5 _ h6).mono ?_;rintro ee w7 ⟨v,rfl,ps,pi,uv,tv,x,rfl,⟨ta,tc,rfl⟩,hq,h7⟩;have Hq:=uQ hq;have HBx:=uQ (HB.out x hq);clear h6 hq;go_wp2_with (with_reducible apply gq);refine ⟨fF qc h7 rfl ?_⟩;intro b10 w8 h8;clear h7;go_wp2_with (with_reducible apply cO);refine ⟨gJ (fA Rep.dZ.zero) h8 aj aj aj cZ au aj ?_⟩;intro w9 h9;clear h8
 replace h9:Sat w0 w9 (aK p m L::aJ m M::dh ps N pi uv (.slice ta 0 tc)::aI pi (mi x) (Bf x)::aB 45 3 uv ((uf x).flatMap bT)::pt b5 (.cells (fA Rep.dZ.zero) 63 (0,0))::F):=h9.sb;go_wp2_with ((with_reducible refine bI ⟨?_⟩);refine gu aQ aj bC bJ ak au ?_);have hdr:=aft (tv:= .slice ta 0 tc) [] (acV _) HL.out HM.out HK.out (fun w _=>wG 1 0 w |> fun _=>⟨ta,0,tc,rfl,rfl,fun j x hj=>by cases hj⟩) h9;rw [show ([]:List Int).length=0 from rfl,Seg.drop_nil rfl]at hdr;refine hdr.mono ?_;rintro ee w10 ⟨v,rfl,rfl,h10⟩;clear hdr h9;go_wp2_with (with_reducible apply cO);refine ⟨fG (cs':=#[.int .i64 N,ptr pi,uv,.slice none 0 0]) h10 aj aj aj amA bJ au aj ?_⟩;intro iV h11;replace h11:Sat w0 iV (aI pi (mi x) (Bf x)::dh ps N pi uv (.slice none 0 0)::aK p m L::aJ m M::aB 45 3 uv ((uf x).flatMap bT)::pt b5 (.cells (fA Rep.dZ.zero) 63 (0,0))::F):=h11.sb;clear h10
 go_wp2_with ((with_reducible refine bI ⟨?_⟩);refine gu h11 aj aY bJ ak au ?_);refine (NM HBx.out h11).mono ?_;rintro ee w12 ⟨v,rfl,pn,rfl,h12⟩;clear h11
 go_wp2_with (first
  |((with_reducible apply yR);refine ⟨?_⟩;first|refine yY aj (akS limit) ?_|refine yY aj Kq ?_)
  |((with_reducible refine fK ⟨?_⟩);refine fM h12 aj aj ?_;intro r jU h13)
  |(with_reducible apply cO))
 refine ⟨gJ (fA Rep.dZ.zero) (h13.sb:Sat w0 jU (pt b5 (.cells (fA Rep.dZ.zero) 63 (0,0))::aW r m limit p ps pn false::dh ps N pi uv (.slice none 0 0)::aI pn (mi x) (Bf x)::aI pi (mi x) (Bf x)::aB 45 3 uv ((uf x).flatMap bT)::aK p m L::aJ m M::F)) aj aj aj cZ au aj ?_⟩;intro nN ku;go_wp2_with fail;refine ⟨rfl,_,Bo rfl ku aj aV Tryz.underlying63 rfl au,_,rfl,r,p,ps,pi,pn,uv,x,rfl,Hq.out,ku.drop⟩
theorem aj6 (h1:128≤limit) (h2:limit≤1048576) (hM:M.Ok K) (hK:K≤1048576) (ha:Seg.alive M=0) (hf:(Seg.fresh M limit).aF=[]) (hl:M.list=[]) (hH:Ro w0 F Half) (h:Sat w0 w (aJ m M::F)) :
  Calls Tryz.prog 19 #[ptr m,.int .i64 limit] w (aP fun v w'=>∃ (r p ps pi pn:Nat) (uv:Value),v = .tuple #[ptr r,.agg (fA Rep.dZ.zero),errno 0] ∧
   Sat w0 w' (aW r m limit p ps pn false::dh ps (-1) pi uv (.slice none 0 0)::aI pn (fun _=>none) 0::aI pi (fun _=>none) 0::aB 45 3 uv []::aK p m (Seg.fresh M limit)::aJ m M::F)):=by
 refine (aax (ι:=Unit) (N:= -1) (fun _ _=>none) (fun _=>0) (fun _=>[]) (fun _=>True) h1 h2 hM hK ha (fun _ _=>by decide) (fun p b5 w' hw=>?_) h).mono ?_
 ·refine (aga (Seg.Jf hM limit h1 h2) hf hM hl (Ro.os hH) hw).mono ?_;rintro e w' ⟨v,rfl,ps,pi,uv,tv,rfl,AB,hS⟩;exact ⟨_,rfl,ps,pi,uv,tv,(),rfl,AB,trivial,hS⟩
 ·rintro e w' ⟨v,rfl,r,p,ps,pi,pn,uv,_,rfl,_,hS⟩;exact ⟨_,rfl,r,p,ps,pi,pn,uv,rfl,hS⟩
theorem nK {seg:Int}{d:Bool} (h:Sat w0 w (aW r m seg p ps pn d::F)):Calls Tryz.prog 42 #[ptr r] w (aP fun v w'=>v = .bool true∧w=w'):=by
 have e2:w.cell? ⟨r,2,none⟩=some (.pointer (some ⟨p,0,none⟩)):=h.cellAt 2 _ rfl;go_enter Tryz.func42,Tryz.ntmps42;go_wp2;go_ret;exact ⟨_,rfl,rfl,rfl⟩
end
end Go.Proofs.YtihngncbioofnaaGreatDoor
namespace Go.Tab
end Go.Tab
namespace Go.Proofs.YtihngncbioofnaaGreatDoor
open Go Go.Sl Go.ay Go.MapKept Go.RowKit
section
variable {w0 w:World}{F:List aH}{p m K r ps pn B:Nat}{L:Seg.Log}{M:ay}{seg:Int}{d:Bool}{k:ah.Bs}{mp:ah.Bs→Option Seg.aU}
theorem aj1 (h:Sat w0 w (aW r m seg p ps pn d::aI pn mp B::F)) :
  Calls Tryz.prog 55 #[ptr r] w (aP fun v w'=>∃ t:Tab.Tb Seg.aU,(t.Ok∧t.Is mp)∧v = .int .i64 t.n∧w=w'):=by
 have hok:=nK h;have hle:=ah3 (h.sb:Sat w0 w (aI pn mp B::aW r m seg p ps pn d::F));have e4:w.cell? ⟨r,4,none⟩=some (.pointer (some ⟨pn,0,none⟩)):=h.cellAt 4 _ rfl;clear h;go_enter Tryz.func55,Tryz.ntmps55;go_wp2_with fail;refine hok.mono ?_;rintro e w1 ⟨v,rfl,rfl,rfl⟩;go_wp2_with fail;refine hle.mono ?_;rintro e w2 ⟨v,rfl,t,ht,rfl,rfl⟩;go_wp2_with fail;go_ret;exact ⟨_,rfl,t,ht,rfl,rfl⟩
theorem QN (hB:B≤134217000) (hk:k.length=32) (data:ah.Bs) (da:Option Addr) (dc:Nat) (hd:Ro w0 F (bG 1 (.slice da data.length dc) (aA data))) (sN:data.length≤1099511627) (hL:L.Ok) (hM:M.Ok K) (jW:K+4≤1099511627776) (hH:Ro w0 F Half)
  (h0:(L.append M ⟨0,k,data⟩).2.2=0) (h:Sat w0 w (aW r m seg p ps pn d::aI pn mp B::aK p m L::aJ m M::F)) :
  Calls Tryz.prog 52 #[ptr r,.agg (aA k).toArray,.slice da data.length dc] w (aP fun v w'=>v=errno 0 ∧
   Sat w0 w' (aW r m seg p ps pn true::aI pn (Tab.put mp k (L.append M ⟨0,k,data⟩).2.1) (B+1)::aK p m (L.append M ⟨0,k,data⟩).1.1::aJ m (L.append M ⟨0,k,data⟩).1.2::F)):=by
 have hks:(aA k).length=32:=by rw [aX,hk]
 have hap:=uQ (fun (w':World) (R:List aH) (hh:Ro w0 R Half) (hr:Ro w0 R (bG 1 (.slice da data.length dc) (aA data))) (hw:Sat w0 w' (aK p m L::aJ m M::R))=>Dc ⟨0,k,data⟩ hk da dc hr hh sN hL hM jW hw);generalize L.append M ⟨0,k,data⟩=q at *
 obtain ⟨⟨L2,M2⟩,pc,e2⟩:=q;dsimp only at h0 hap ⊢;subst h0;have HB:=uQ hB;have iM:=uQ hk;have iD:=uQ hks;have Hd:=uQ hd;have HH:=uQ hH;clear hB hk hks hd sN hL hM jW hH;go_enter Tryz.func52,Tryz.ntmps52;go_wp2_with (with_reducible apply fK);refine ⟨fM h ak ak ?_⟩;intro b4 w4 h4;replace h4:Sat w0 w4 (pt b4 (.cells (aA k).toArray 50 (0,0))::aW r m seg p ps pn d::aI pn mp B::aK p m L::aJ m M::F):=h4;clear h;go_wp2_with fail;refine (nK (h4.sb:Sat w0 w4 (aW r m seg p ps pn d::pt b4 (.cells (aA k).toArray 50 (0,0))::aI pn mp B::aK p m L::aJ m M::F))).mono ?_;rintro ee w5 ⟨v,rfl,rfl,rfl⟩;go_wp2_with fail;have h5:=h4.drew;clear h4;refine dS [7,8,9,10,12,13] (fun w'=>w'.cell? ⟨r,2,none⟩=some (.pointer (some ⟨p,0,none⟩))∧w'.rangeAt b4 0 (aA k)) au ?_
 have kY:∀ (w':World) (R:List aH) (dd:Bool),Sat w0 w' (pt b4 (.cells (aA k).toArray 50 (0,0))::aW r m seg p ps pn dd::R)→w'.cell? ⟨r,2,none⟩=some (.pointer (some ⟨p,0,none⟩))∧w'.rangeAt b4 0 (aA k):=fun w' R dd hw=>⟨hw.cellP aY 2 rfl,fun j z hj=>by rw [acT];exact hw.cellP aV j (by rw [abY];exact hj)⟩;have lK:=uQ kY;have hG:=kY _ _ _ h5;clear kY;refine rP 0 ?_ (y:=aZ);refine rP 1 ?_ (y:=dV);refine rP 2 ?_ (y:=bW);refine rt 3 (h:=?_);refine gV 4 ak au eU (iI (b:=b4) (o:=0) (aA k) aj Tryz.underlying50 rfl (by rw [iD.out];kernel_rfl) (fun w hw=>hw.2)) aQ gQ ?_;clear hG;refine rP 5 ?_ (y:=aZ);refine rP 6 ?_ (y:=(GX ak ak ak (fun w=>aaP ⟨0,k,data⟩ iM.out da data.length dc w)));refine rU 7 11 ak ak au (fun K hK=>?_) (fun K hK=>?_)
 ·(refine gZ au ak ak ?_)
  refine (hap.out _ _ (Ro.os HH.out) (Ro.os Hd.out) (h5.sb:Sat w0 _ (aK p m L::aJ m M::pt b4 (.cells (aA k).toArray 50 (0,0))::aW r m seg p ps pn d::aI pn mp B::F))).mono ?_;rintro ee w6 ⟨v,rfl,rfl,h6⟩;refine hK _ _ (.inl rfl) ?_;clear hK hap h5;refine rP 8 ?_ (y:=aZ);refine rP 9 ?_ (y:=(fC ak bU));refine rP 10 ?_ (y:=(fC ak bU));refine bY 11 ak au (fun K hK=>?_);refine lZ (ng) h6 rfl ?_;intro b7 w7 h7;refine hK _ _ (.inr (.inl (lK.out _ _ _ (h7.sb:Sat w0 w7 (pt b4 (.cells (aA k).toArray 50 (0,0))::aW r m seg p ps pn d::aI pn mp B::pt b7 (.cells (aS Seg.aU.zero).toArray 94 (0,0))::aK p m L2::aJ m M2::F))))) ?_;clear hK h6;have h8:Sat w0 w7 (pt b7 (.cells (aS Seg.aU.zero).toArray 94 (0,0))::pt b4 (.cells (aA k).toArray 50 (0,0))::aW r m seg p ps pn d::aI pn mp B::aK p m L2::aJ m M2::F):=h7.sb;clear h7;refine bY 12 ak au (fun K hK=>?_)
  refine kW (cs':=(aS pc).toArray) h8 ak ak aj cZ bJ au aj ?_;intro w9 h9;refine hK _ _ (.inl rfl) ?_;clear hK h8;refine rP 13 ?_ (y:=fZ);refine dI au ?_;go_wp2_with fail;have h10:=h9.drew;clear h9;replace h10:Sat w0 _ (pt b4 (.cells (aA k).toArray 50 (0,0))::aW r m seg p ps pn d::aI pn mp B::pt b7 (.cells (aS pc).toArray 94 (0,0))::aK p m L2::aJ m M2::F):=h10.sb;refine dS [6] (fun w'=>w'.cell? ⟨r,4,none⟩=some (.pointer (some ⟨pn,0,none⟩))∧w'.rangeAt b4 0 (aA k)∧w'.rangeAt b7 0 (aS pc)) au ?_;have hG:World.cell? _ ⟨r,4,none⟩=some (.pointer (some ⟨pn,0,none⟩))∧World.rangeAt _ b4 0 (aA k)∧World.rangeAt _ b7 0 (aS pc):=⟨h10.cellP aY 4 rfl,fun j z hj=>by rw [acT];exact h10.cellP aV j (by rw [abY];exact hj),fun j z hj=>by rw [acT];exact h10.cellP iJ j (by rw [abY];exact hj)⟩;refine rP 0 ?_ (y:=aZ);refine rP 1 ?_ (y:=dV);refine rP 2 ?_ (y:=bW);refine rt 3 (h:=?_)
  refine gV 4 ak au eU (iI (b:=b4) (o:=0) (aA k) aj Tryz.underlying50 rfl (by rw [iD.out];kernel_rfl) (fun w hw=>hw.2.1)) aQ gQ ?_;refine gV 5 ak au eU (iI (b:=b7) (o:=0) (aS pc) aj Tryz.underlying94 rfl au (fun w hw=>hw.2.2)) aQ gQ ?_;clear hG;refine bY 6 ak au (fun K hK=>?_)
  (refine xM au ak ak ak ?_)
  refine (Qi HB.out iM.out pc (h10.sb:Sat w0 _ (aI pn mp B::pt b4 (.cells (aA k).toArray 50 (0,0))::aW r m seg p ps pn d::pt b7 (.cells (aS pc).toArray 94 (0,0))::aK p m L2::aJ m M2::F))).mono ?_;rintro ee iV ⟨v,rfl,h11⟩;refine hK _ _ (.inl rfl) ?_;clear hK h10;refine dI au ?_;go_wp2_with (with_reducible apply cO);refine ⟨fG (cs':=#[ptr m,.int .i64 seg,ptr p,ptr ps,ptr pn,.bool true]) (h11.sb:Sat w0 iV (aW r m seg p ps pn d::aI pn (Tab.put mp k pc) (B+1)::pt b4 (.cells (aA k).toArray 50 (0,0))::pt b7 (.cells (aS pc).toArray 94 (0,0))::aK p m L2::aJ m M2::F)) aj aj aj cZ bJ au aj ?_⟩;intro w12 h12;go_wp2_with fail;go_ret;exact ⟨_,rfl,rfl,h12.sb⟩
 ·refine lZ (ng) h5 rfl ?_;intro b7 w6 h6;refine hK _ _ (.inr (.inl (lK.out _ _ _ (h6.sb:Sat w0 w6 (pt b4 (.cells (aA k).toArray 50 (0,0))::aW r m seg p ps pn d::pt b7 (.cells (aS Seg.aU.zero).toArray 94 (0,0))::aI pn mp B::aK p m L::aJ m M::F))))) ?_;clear hK h5;refine bY 7 ak au (fun K hK=>?_)
  (refine gZ au ak ak ?_)
  refine (hap.out _ _ (Ro.os HH.out) (Ro.os Hd.out) (h6.sb:Sat w0 _ (aK p m L::aJ m M::pt b7 (.cells (aS Seg.aU.zero).toArray 94 (0,0))::pt b4 (.cells (aA k).toArray 50 (0,0))::aW r m seg p ps pn d::aI pn mp B::F))).mono ?_;rintro ee w7 ⟨v,rfl,rfl,h7⟩;refine hK _ _ (.inl rfl) ?_;clear hK hap h6;refine rP 8 ?_ (y:=aZ);refine rP 9 ?_ (y:=(fC ak bU));refine rP 10 ?_ (y:=(fC ak bU));have h8:Sat w0 w7 (pt b7 (.cells (aS Seg.aU.zero).toArray 94 (0,0))::pt b4 (.cells (aA k).toArray 50 (0,0))::aW r m seg p ps pn d::aI pn mp B::aK p m L2::aJ m M2::F):=h7.sb;clear h7;refine bY 12 ak au (fun K hK=>?_);refine kW (cs':=(aS pc).toArray) h8 ak ak aj cZ bJ au aj ?_;intro w9 h9;refine hK _ _ (.inl rfl) ?_;clear hK h8;refine rP 13 ?_ (y:=fZ);refine dI au ?_;go_wp2_with fail;have h10:=h9.drew;clear h9
  replace h10:Sat w0 _ (pt b4 (.cells (aA k).toArray 50 (0,0))::aW r m seg p ps pn d::aI pn mp B::pt b7 (.cells (aS pc).toArray 94 (0,0))::aK p m L2::aJ m M2::F):=h10.sb;refine dS [6] (fun w'=>w'.cell? ⟨r,4,none⟩=some (.pointer (some ⟨pn,0,none⟩))∧w'.rangeAt b4 0 (aA k)∧w'.rangeAt b7 0 (aS pc)) au ?_;have hG:World.cell? _ ⟨r,4,none⟩=some (.pointer (some ⟨pn,0,none⟩))∧World.rangeAt _ b4 0 (aA k)∧World.rangeAt _ b7 0 (aS pc):=⟨h10.cellP aY 4 rfl,fun j z hj=>by rw [acT];exact h10.cellP aV j (by rw [abY];exact hj),fun j z hj=>by rw [acT];exact h10.cellP iJ j (by rw [abY];exact hj)⟩;refine rP 0 ?_ (y:=aZ);refine rP 1 ?_ (y:=dV);refine rP 2 ?_ (y:=bW);refine rt 3 (h:=?_);refine gV 4 ak au eU (iI (b:=b4) (o:=0) (aA k) aj Tryz.underlying50 rfl (by rw [iD.out];kernel_rfl) (fun w hw=>hw.2.1)) aQ gQ ?_
  refine gV 5 ak au eU (iI (b:=b7) (o:=0) (aS pc) aj Tryz.underlying94 rfl au (fun w hw=>hw.2.2)) aQ gQ ?_;clear hG;refine bY 6 ak au (fun K hK=>?_)
  (refine xM au ak ak ak ?_)
  refine (Qi HB.out iM.out pc (h10.sb:Sat w0 _ (aI pn mp B::pt b4 (.cells (aA k).toArray 50 (0,0))::aW r m seg p ps pn d::pt b7 (.cells (aS pc).toArray 94 (0,0))::aK p m L2::aJ m M2::F))).mono ?_;rintro ee iV ⟨v,rfl,h11⟩;refine hK _ _ (.inl rfl) ?_;clear hK h10;refine dI au ?_;go_wp2_with (with_reducible apply cO);refine ⟨fG (cs':=#[ptr m,.int .i64 seg,ptr p,ptr ps,ptr pn,.bool true]) (h11.sb:Sat w0 iV (aW r m seg p ps pn d::aI pn (Tab.put mp k pc) (B+1)::pt b4 (.cells (aA k).toArray 50 (0,0))::pt b7 (.cells (aS pc).toArray 94 (0,0))::aK p m L2::aJ m M2::F)) aj aj aj cZ bJ au aj ?_⟩;intro w12 h12;go_wp2_with fail;go_ret;exact ⟨_,rfl,rfl,h12.sb⟩
def lG:ah.Bs:=1::List.replicate 31 0
theorem uP:lG.length=32:=rfl
theorem aaR (w:World):(Instr.build 50 #[(0,.int .u8 1)]).run Tryz.prog w = .ok (.agg (aA lG).toArray) w:=by kernel_rfl
end
def xI:Tab.Slot Seg.aU:=⟨2,ah.zero32,Seg.aU.zero⟩
theorem akZ (w:World):(Instr.build 164 #[(0,.int .i64 2)]).run Tryz.prog w = .ok (.agg (slotL aS xI).toArray) w:=by
 refine (aod (P:=Tryz.prog) [(0,.int .i64 2)] ZX ug (by
  intro p' hp;simp only [acK,ag0,aoj]at hp;have hzz:(Value.agg (slotL aS (⟨0,ah.zero32,Seg.aU.zero⟩:Tab.Slot (Seg.aU))).toArray).cells.size=36:=by
   show (slotL aS (⟨0,ah.zero32,Seg.aU.zero⟩:Tab.Slot (Seg.aU))).toArray.size=36;rw [abX,jc aS _ aN 3 rfl]
  rw [hzz];rcases hp with rfl
  exact ⟨0,rfl,by show 0+1≤36;omega⟩) w).trans ?_
 rfl
section
variable {w0 w:World}{F R:List aH}{p B:Nat}{sv:Value}{k:ah.Bs}{m:ah.Bs→Option (Seg.aU)}
theorem VY (hB:B≤134217000) (hk:k.length=32) (h:Sat w0 w (aI p m B::F)) :
  Calls Tryz.prog 109 #[ptr p,.agg (aA k).toArray] w (aP fun v w'=>v = .bool (m k).isSome∧Sat w0 w' (aI p (Tab.del m k) B::F)):=by
 obtain ⟨t,sv,⟨ok,is,hb⟩,hR⟩:=aI.open h;obtain ⟨d,he⟩:=ok.ends k;have hsz:t.slots.length≤536872000:=by have:=ok.size;omega
 have Hlen:=uQ (show ∀ x∈t.slots,(slotL aS x).length=36 from fun x hx=>jc aS x (ok.good.key x hx) 3 (qQ _));obtain ⟨la,lc,rfl⟩:=jl Hlen.out (Sat.rd (hR.pick aY)) aN;have hrl:0<(t.slots.flatMap (slotL aS)).length:=by rw [iY Hlen.out];have:=ok.good.jB;omega
 obtain ⟨bk,rfl⟩:=Ba (hR.pick aY) hrl;have Hk:=uQ hk;have dw:=uQ ok;have iR:=uQ is;have Hb:=uQ hb;have He:=uQ he;have iC:=uQ hsz;have HB:=uQ hB;have jv:=uQ ok.good.jB;have qJ:=uQ (show (aA k).length=32 by rw [aX,hk]);clear h hk ok is hb he hsz hB hrl;go_enter Tryz.func109,Tryz.ntmps109;go_wp2_with (with_reducible apply fK);refine ⟨fM hR ak ak ?_⟩;intro b4 w4 hS4;have hA:Sat w0 w4 (fJ p 166 (.slice (some ⟨bk,0,none⟩) t.slots.length lc) t.n t.gone::aB 164 36 (.slice (some ⟨bk,0,none⟩) t.slots.length lc) (t.slots.flatMap (slotL aS))::pt b4 (.cells (aA k).toArray 50 (0,0))::F):=hS4.sb;clear hR hS4;go_wp2_with fail;refine (AZ jv.out hA).mono ?_;rintro ee w7 ⟨v',rfl,rfl,rfl⟩;go_wp2_with ((with_reducible refine bI ⟨?_⟩);refine iW hA aj (aT (aT (aV (A:=pt b4 (.cells (aA k).toArray 50 (0,0)))))) Tryz.underlying50 rfl (by rw [abX,qJ.out];kernel_rfl) ?_)
 have hf:=CG dw.out.good (acz iC.out aN) Hk.out He.out hA;clear hA;refine hf.mono ?_;rintro ee w8 ⟨v',rfl,x,hx,rfl,jE⟩;clear hf;have hlt:=Tab.lV (k:=k) (d:=d) jv.out;by_cases h1:x.st=1;rotate_left
 ·have hd:decide (x.st=1)=false:=ac4 h1;have hno:m k=none:=by
   obtain ⟨_,q2⟩:=iR.out.some dw.out He.out hx;exact q2 h1
  have Hno:=uQ hno
  have LU:=uQ (show Tab.del m k=m from by
   funext l
   unfold Tab.del;split
   ·rename_i e;rw [e,hno]
   ·rfl)
  clear h1 hx hno hlt;go_wp2_with fail;go_ret;exact ⟨_,rfl,by rw [Hno.out];rfl,by rw [LU.out];exact aI.shut dw.out iR.out Hb.out (jE.sb)⟩
 ·have hd:decide (x.st=1)=true:=adt h1;have MW:=uQ (show (m k).isSome=true from by rw [(iR.out.some dw.out He.out hx).1 h1];rfl);have oG:=uQ (yN (f:=slotL aS) (k:=36) (i:=Tab.pos k t.slots.length d) (x:=xI) Hlen.out (jc aS _ rfl 3 rfl) hlt);obtain ⟨hn0,hok2⟩:=Tab.afh dw.out He.out hx h1 (z:=xI) rfl rfl;have pq:=uQ (fun n g=>Tab.ahA iR.out (Tab.VZ dw.out.good He.out hx h1 (z:=xI) rfl rfl).2 n g);have hrl:(t.slots.flatMap (slotL aS)).length=36 * t.slots.length:=iY Hlen.out;have hls:=jc aS xI rfl 3 rfl;have hwn:IntKind.i64.wrap ((t.n:Int) - 1)=((t.n - 1:Nat):Int):=by rw [acC _ (by have:=Hb.out;have:=HB.out;omega)];omega
  have hwg:IntKind.i64.wrap ((t.gone:Int)+1)=((t.gone+1:Nat):Int):=by rw [acC _ (by have:=Hb.out;have:=HB.out;omega)];omega
  have hle:(t.slots.set (Tab.pos k t.slots.length d) xI).length=t.slots.length:=ag6;have Hb2:=uQ (show (t.n - 1)+(t.gone+1)≤B by have:=Hb.out;omega);have lM:=uQ hok2;generalize hns:t.slots.set (Tab.pos k t.slots.length d) xI=ns at *
  clear hns hok2;clear h1 hx;generalize Tab.pos k t.slots.length d=P0 at *
  have c0:(0:Int)≤(P0:Int):=oQ;have c1:(P0:Int)<(t.slots.length:Int):=oQ
  go_wp2_with (first
   |((with_reducible refine bI ⟨?_⟩);refine gu jE aj bC bJ ak au ?_)
   |((with_reducible apply yR);refine ⟨?_⟩;refine yY aj (fun w=>akZ w) ?_)
   |(with_reducible apply cO))
  refine ⟨amY (vs:=slotL aS xI) (P0 * 36) jE aj aj rfl (jh cZ) (by rw [hrl,hls];omega) (by rw [hls];kernel_rfl) (mY aS _ aj) ?_⟩;intro w12 iK;rw [← oG.out]at iK;clear jE
  go_wp2_with (first
   |((with_reducible refine bI ⟨?_⟩);refine gu iK aj bC bJ ak au ?_)
   |(with_reducible apply cO))
  refine ⟨fG (cs':=#[.slice (some ⟨bk,0,none⟩) t.slots.length lc,.int .i64 ((t.n - 1:Nat):Int),.int .i64 t.gone]) iK aj aj aj cZ bJ au aj ?_⟩;intro jU uH;clear iK
  go_wp2_with (first
   |((with_reducible refine bI ⟨?_⟩);refine gu uH aj bC bJ ak au ?_)
   |(with_reducible apply cO))
  refine ⟨fG (cs':=#[.slice (some ⟨bk,0,none⟩) t.slots.length lc,.int .i64 ((t.n - 1:Nat):Int),.int .i64 ((t.gone+1:Nat):Int)]) uH aj aj aj cZ bJ au aj ?_⟩;intro nN Jp;clear uH hwn hwg;go_wp2_with fail;have hSd:=Jp.drew;clear Jp;have hw8:IntKind.i64.wrap (8 * ((t.n - 1:Nat):Int))=8 * ((t.n - 1:Nat):Int):=acC _ (by have:=Hb.out;have:=HB.out;omega);have anD:wrap64 (8 * ((t.n - 1:Nat):Int))=8 * ((t.n - 1:Nat):Int):=adM _ (by have:=Hb.out;have:=HB.out;omega);have Il:=uQ (show t.n - 1≤134217728 by have:=Hb.out;have:=HB.out;omega);clear hn0;generalize t.n - 1=n1 at *
  generalize t.gone+1=g1 at *
  by_cases c8:8<t.slots.length
  ·have ND:(8:Int)<(t.slots.length:Int):=by omega
   have c8d:decide ((8:Int)<(t.slots.length:Int))=true:=adt ND;by_cases c9:8 * n1<t.slots.length
   ·have NG:8 * (n1:Int)<(t.slots.length:Int):=by omega
    have c9d:decide (8 * (n1:Int)<(t.slots.length:Int))=true:=adt NG;refine dS [] (fun w'=>w'.cell? ⟨p,0,none⟩=some (.slice (some ⟨bk,0,none⟩) t.slots.length lc)∧w'.cell? ⟨p,1,none⟩=some (.int .i64 n1)) au ?_;have hG:World.cell? _ ⟨p,0,none⟩=some (.slice (some ⟨bk,0,none⟩) t.slots.length lc)∧World.cell? _ ⟨p,1,none⟩=some (.int .i64 n1):=⟨hSd.cellP bC 0 rfl,hSd.cellP bC 1 rfl⟩;refine rP 0 ?_ (y:=aZ);refine rP 1 ?_ (y:=dV);refine rP 2 ?_ (y:=bW);refine rt 3 (h:=?_);refine rP 4 ?_ (y:=(o8 ak bU));refine rP 5 ?_ (y:=kM);refine rP 6 ?_ (y:=aZ);refine rP 7 ?_ (y:=(tZ aj ak));refine rP 8 ?_ (y:=(Lr aj ak));refine rP 9 ?_ (y:=(BM aj ak bU));refine gV 10 ak au eU (DJ aj ak au (by intro wq hq;first|exact hq|exact hq.1|exact hq.2|exact hq.2.1|exact hq.2.2|exact hq.2.2.1|exact hq.2.2.2|exact hq.2.2.2.1|exact hq.2.2.2.2)) aQ gQ ?_
    refine rP 11 ?_ (y:=(aci aj ak bU));refine rP 12 ?_ (y:=(tZ aj ak));refine rP 13 ?_ (y:=(Lr aj ak));refine rP 14 ?_ (y:=(BM aj ak bU));refine gV 15 ak au eU (DJ aj ak au (by intro wq hq;first|exact hq|exact hq.1|exact hq.2|exact hq.2.1|exact hq.2.2|exact hq.2.2.1|exact hq.2.2.2|exact hq.2.2.2.1|exact hq.2.2.2.2)) aQ gQ ?_;refine rP 16 ?_ (y:=(Lp aj ak ak bU));refine rP 17 ?_ (y:=(Lp aj ak ak bU));refine rP 18 ?_ (y:=(DZ aj ak ak));clear hG;refine dI au ?_
    try simp only [jT]
    try go_frame
    have hrn:=aar (t:=⟨ns,n1,g1⟩) (N:=n1) lM.out (abL _) Il.out (by show ns.length≤_;have:=iC.out;omega) (hSd.sb:Sat w0 _ (fJ p 166 (.slice (some ⟨bk,0,none⟩) t.slots.length lc) n1 g1::aB 164 36 (.slice (some ⟨bk,0,none⟩) t.slots.length lc) (ns.flatMap (slotL aS))::pt b4 (.cells (aA k).toArray 50 (0,0))::F));have e1:World.cell? _ ⟨p,1,none⟩=some (.int .i64 n1):=hSd.cellP bC 1 rfl;clear hSd;go_wp2_with fail;refine hrn.mono ?_;rintro ee w15 ⟨v',rfl,s',sv',nX,agM⟩;clear hrn;have Ux:=uQ nX;clear nX e1;go_wp2_with fail;go_ret;exact ⟨_,rfl,by rw [MW.out];rfl,aI.shut (t:=⟨s',n1,0⟩) Ux.out.ok0 (Ux.out.is (pq.out n1 g1) n1 0) (by have:=Hb2.out;simp only;omega) (agM.sb)⟩
   ·have NG:¬ 8 * (n1:Int)<(t.slots.length:Int):=by omega
    have c9d:decide (8 * (n1:Int)<(t.slots.length:Int))=false:=ac4 NG;refine dS [] (fun w'=>w'.cell? ⟨p,0,none⟩=some (.slice (some ⟨bk,0,none⟩) t.slots.length lc)∧w'.cell? ⟨p,1,none⟩=some (.int .i64 n1)) au ?_;have hG:World.cell? _ ⟨p,0,none⟩=some (.slice (some ⟨bk,0,none⟩) t.slots.length lc)∧World.cell? _ ⟨p,1,none⟩=some (.int .i64 n1):=⟨hSd.cellP bC 0 rfl,hSd.cellP bC 1 rfl⟩;refine rP 0 ?_ (y:=aZ);refine rP 1 ?_ (y:=dV);refine rP 2 ?_ (y:=bW);refine rt 3 (h:=?_);refine rP 4 ?_ (y:=(o8 ak bU));refine rP 5 ?_ (y:=kM);refine rP 6 ?_ (y:=aZ);refine rP 7 ?_ (y:=(tZ aj ak));refine rP 8 ?_ (y:=(Lr aj ak));refine rP 9 ?_ (y:=(BM aj ak bU));refine gV 10 ak au eU (DJ aj ak au (by intro wq hq;first|exact hq|exact hq.1|exact hq.2|exact hq.2.1|exact hq.2.2|exact hq.2.2.1|exact hq.2.2.2|exact hq.2.2.2.1|exact hq.2.2.2.2)) aQ gQ ?_
    refine rP 11 ?_ (y:=(aci aj ak bU));refine rP 12 ?_ (y:=(tZ aj ak));refine rP 13 ?_ (y:=(Lr aj ak));refine rP 14 ?_ (y:=(BM aj ak bU));refine gV 15 ak au eU (DJ aj ak au (by intro wq hq;first|exact hq|exact hq.1|exact hq.2|exact hq.2.1|exact hq.2.2|exact hq.2.2.1|exact hq.2.2.2|exact hq.2.2.2.1|exact hq.2.2.2.2)) aQ gQ ?_;refine rP 16 ?_ (y:=(Lp aj ak ak bU));refine rP 17 ?_ (y:=(Lp aj ak ak bU));refine rP 18 ?_ (y:=(DZ aj ak ak));clear hG;refine dI au ?_
    try simp only [jT]
    try go_frame
    go_wp2_with fail;go_ret;exact ⟨_,rfl,by rw [MW.out];rfl,aI.shut (t:=⟨ns,n1,g1⟩) lM.out (pq.out n1 g1) Hb2.out (hSd.sb)⟩
  ·have ND:¬ (8:Int)<(t.slots.length:Int):=by omega
   have c8d:decide ((8:Int)<(t.slots.length:Int))=false:=ac4 ND;refine dS [] (fun w'=>w'.cell? ⟨p,0,none⟩=some (.slice (some ⟨bk,0,none⟩) t.slots.length lc)∧w'.cell? ⟨p,1,none⟩=some (.int .i64 n1)) au ?_;have hG:World.cell? _ ⟨p,0,none⟩=some (.slice (some ⟨bk,0,none⟩) t.slots.length lc)∧World.cell? _ ⟨p,1,none⟩=some (.int .i64 n1):=⟨hSd.cellP bC 0 rfl,hSd.cellP bC 1 rfl⟩;refine rP 0 ?_ (y:=aZ);refine rP 1 ?_ (y:=dV);refine rP 2 ?_ (y:=bW);refine rt 3 (h:=?_);refine rP 4 ?_ (y:=(o8 ak bU));refine rP 5 ?_ (y:=kM);refine rP 6 ?_ (y:=aZ);refine pU 7 ak au eU aj gQ ?_;refine pU 8 ak au eU aj gQ ?_;refine pU 9 ak au eU aj gQ ?_;refine pU 10 ak au eU aj gQ ?_;refine pU 11 ak au eU aj gQ ?_;refine pU 12 ak au eU aj gQ ?_;refine pU 13 ak au eU aj gQ ?_;refine pU 14 ak au eU aj gQ ?_;refine pU 15 ak au eU aj gQ ?_;refine pU 16 ak au eU aj gQ ?_
   refine pU 17 ak au eU aj gQ ?_;refine rP 18 ?_ (y:=(DZ aj ak ak));clear hG;refine dI au ?_
   try simp only [jT]
   try go_frame
   go_wp2_with fail;go_ret;exact ⟨_,rfl,by rw [MW.out];rfl,aI.shut (t:=⟨ns,n1,g1⟩) lM.out (pq.out n1 g1) Hb2.out (hSd.sb)⟩
end
end Go.Proofs.YtihngncbioofnaaGreatDoor
