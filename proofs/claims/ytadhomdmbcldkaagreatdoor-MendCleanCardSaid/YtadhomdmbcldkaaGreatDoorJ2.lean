import Derived.Test.YtadhomdmbcldkaaGreatDoorJ1
import Derived.Sort.OwnSorted
import Derived.Sort.Walk0
import Derived.Laws.BitsAllLaws
import Derived.Laws.Strings
import Derived.Deep.Slices
import Derived.WalkKit
import Derived.ProofKit
import Derived.OpenShut
import Derived.ShutString
import Derived.ChangeOld
import Derived.Below
import Derived.ChangeKeysEq
import Derived.Laws.Rows
import Derived.Laws.OwnMore
import Derived.Laws.CopyOwn
import Derived.Lib.SlBytesConst
import Derived.Laws.IdiomStrings
set_option linter.unusedSimpArgs false
open Go.Proofs.Tryz
set_option maxRecDepth 20000
open Go Go.Sl Go.MapKept Go.RowKit
open Go.Proofs.YtadhomdmbcldkaaGreatDoor Go.Proofs.Y
variable {w0 w:World}{F:List aF}{v bv wv dv lv x av:Value}{m fb nb b r K q:Nat}{M:ak.ak}{bs:List Nat}{s:ByteArray}{fs:List ak.aX}{l:ak.Names}{f:ak.aX}{P:Program}{ops:Array Oper}{rest:List Oper}{a:Act}{Q:Exit->Act->World->Prop}
theorem yJ0{p:Prop} (h:p:=by rw [kX.o];kernel_rfl):p:=h
theorem yS0{p:Prop} (h:p:=by have:=Hlen.o;omega):p:=h
theorem yT0{p:Prop} (h:p:=by simp;omega):p:=h
theorem yY0{p:Prop} (h:p:=by rw [M.jf.2.2.2.1];exact hl):p:=h
theorem zG0{p:Prop} (h:p:=by unfold maxLen;omega):p:=h
namespace Go.Sl
open Go
theorem jI {α : Type} : (∀ (l : List α) (i : Nat) (h : i < l.toArray.size), l.toArray[i]'h = l[i]' yL0) /\ (∀ (x : α) (l : List α) (i : Nat) (h : i + 1 < (x :: l).length), (x :: l)[i + 1]'h = l[i]' yL0) /\ (∀ (x : α) (l : List α) (h : 0 < (x :: l).length), (x :: l)[0]'h = x) := ⟨λ_ _ h => List.getElem_toArray h, λ_ _ _ _ => rfl, λ_ _ _ => rfl⟩
section
variable {P : Program} {ops : Array Oper} {Q : Exit -> Act -> World -> Prop} {late : List Nat} {G : World -> Prop}
end
end Go.Sl
set_option linter.unusedVariables false
set_option maxHeartbeats 128000000
namespace Go.Proofs.Y
open Go.ak
open Go.Sort in
theorem sort_c (ss:List (List UInt8)) (h:Sat w0 w (aC 9 1 v (ss.map encStr)::F)) (hsz:ss.length<4611686018427387904) :
  Calls prog 129 #[v] w (aN λ_ w'=>Sat w0 w' (aC 9 1 v ((ss.mergeSort λx y=>decide (x<=y)).map encStr)::F)):=by
 rcases h.kL with ⟨rfl,hn,h'⟩|⟨g,n,cap,cs,rfl,hl,hn,hc,hcm,htk,hp⟩
 ·have hn':ss=[]:=by simpa using hn
  subst hn';refine (Tryz.slices_Sort_string_none none 0 w).mono ?_;rintro e w1 ⟨rfl,rfl⟩;exact ⟨_,rfl,by simpa using h⟩
 ·have hl':n=ss.length:=by simpa using hl.symm
  subst hl';rw [aeo]at htk;refine (Tryz.slices_Sort_string g 0 cap ss w (holds_of_block hp.at htk) hp.lt hsz).mono ?_;rintro e w1 ⟨rfl,n,os,rfl⟩;refine ⟨_,rfl,?_⟩;have hg:=grownBy_sorted (w:=w) (g:=g) (n:=n) (os:=os) (ss.mergeSort λx y=>decide (x<=y)).toArray;have:=hp.turn hg.os hg.tape hg.output hg.size (heap_sorted (n:=n) (os:=os) (ss.mergeSort λx y=>decide (x<=y)).toArray hp.at) (λi hi hlt=>hg.block i hlt (by simpa using hi));refine this.kU yF0 hn (by simpa [Sort.putCells] using hc) hcm ?_;have h1:=take_putCells cs (ss.mergeSort λx y=>decide (x<=y)) (by rw [List.length_mergeSort];omega);rw [List.length_mergeSort]at h1;rw [aeo];exact h1
theorem XM (s:ByteArray):encStr s.data.toList=.string s:=by simp [encStr]
theorem amO {l:Names} (hs:oP l){ks:List ByteArray} (hp:ks.Perm (l.map (·.1))) :
  ((ks.map λs=>s.data.toList).mergeSort λx y=>decide (x<=y)).map encStr=l.map λp=> .string p.1:=by
 have h1:((ks.map λs=>s.data.toList).mergeSort λx y=>decide (x<=y))=l.map λp=>p.1.data.toList:=by
  refine List.Perm.eq_of_pairwise (le:=λx y=>decide (x<=y)=true) ?_ ?_ ?_ ?_
  ·intro a b _ _ h1 h2;simp only [ad5]at h1 h2;exact List.le_antisymm h1 h2
  ·refine List.pairwise_mergeSort ?_ ?_ _
   ·intro a b c h1 h2;simp only [ad5]at *
    exact List.le_trans h1 h2
   ·intro a b;simp only [Bool.or_eq_true,ad5];exact List.le_total a b
  ·rw [ahB];refine hs.imp λ{a b} hab=>?_;simp only [lt,ad5]at hab ⊢;exact List.le_of_lt hab
  ·refine (List.mergeSort_perm _ _).trans ?_;have:=hp.map λs:ByteArray=>s.data.toList;rw [ahU]at this;exact this
 rw [h1,ahU];apply aj6;intro p _;exact XM p.1
theorem aiE:(prog.info? 9).map (λi=>(i.zero,i.size,i.bytes))=some (some (.string ByteArray.empty),1,16):=by kernel_rfl
def strs (l:List ByteArray):List Value:=l.map Value.string
theorem amY (l:List ByteArray):strs l=(l.map λs=>s.data.toList).map encStr:=by
 unfold strs;rw [ahU];apply aj6;intro s _;exact (XM s).symm
theorem ajE (h:Sat w0 w (omap .string b (dR bs l)::F)) (hs:oP l) (hl:l.length<=1099511627776) :
  Calls prog 62 #[.map (some b)] w (aN λv w'=>Sat w0 w' (aC 9 1 v (strs (l.map (·.1)))::omap .string b (dR bs l)::F)/\∃ a n c,v=.slice a n c):=by
 obtain ⟨i,hi,hz0,hz1,hz2⟩:=info_parts aiE;have Hs:=uQ hs;clear hs;go_enter func62,ntmps62;go_wp2_with (at_range;go_must (refine UY ah _ _ _ _ ah underlying128 ah h ?_);intro r w1 hS)
 go_frame
 go_loopg [3] l.length (λg n wr=>∃ (ks:List ByteArray) (todo:Names) (left:List (Value×Value)),g=todo.length/\left.Perm (dR bs todo)/\(ks++todo.map (·.1)).Perm (l.map (·.1)) /\
   Sat w0 wr (aC 9 1 n (strs ks)::rng .string b r (dR bs l) left::F))
 case atStart=>exact ⟨[],l,_,rfl,aoF _,aoF _,by unfold strs;exact Sat.dO.2 hS⟩
 case round=>
  obtain ⟨ks,todo,left,rfl,hleft,hperm,hS⟩:=hrel;have hlen:ks.length+todo.length=l.length:=by have:=hperm.length_eq;simpa using this
  obtain ⟨oa,on,oc,rfl,hoc,_⟩:=hS.rd;clear hoc;have FD:=uQ hleft;have DT:=uQ hperm;clear hleft hperm;go_wp2_with (at_next;go_must (refine UW ah _ ah ah hS.aT ?_ ?_))
  ·intro hnil;have FK:=uQ hnil;clear hnil;have h0:todo=[]:=by
    have:=FD.o;rw [FK.o]at this;simpa [dR] using this.symm
   subst h0;have hk:ks.Perm (l.map (·.1)):=by simpa using DT.o
   have hsort:=sort_c (ks.map λs=>s.data.toList) (by rw [<-amY];exact hS) (by simp at hlen ⊢;omega);rw [amO Hs.o hk]at hsort;have Hk:=uQ hk;clear hk;go_wp2_with (go_at_call 129;refine hsort.mono ?_;rintro e w2 ⟨v,rfl,hS2⟩);go_ret;refine ⟨_,rfl,?_,_,_,_,rfl⟩;have h9:=(hS2.aT.Ti).aT;have e1:strs (l.map (·.1))=l.map λp=>Value.string p.1:=by unfold strs;rw [ahU];rfl
   rw [e1];exact h9
  ·intro k v left' w1 hp hS1 hen;obtain ⟨p,todo',hp',rfl,rfl,hl'⟩:=Rk (FD.o.symm.trans hp);have hlen2:todo.length=todo'.length+1:=by have:=hp'.length_eq;simpa using this
   have Hp:=uQ hp';have Hl:=uQ hl';clear hp hp' hl';have hb1:=hS1.aT.alloc (.cells #[.string p.1] 9);have h63:(strs ks).length+1<=maxLen:=by unfold strs maxLen;rw [abl];omega
   have hby:((strs ks).length+1)*i.bytes<=140737488355328:=by unfold strs;rw [abl,hz2];omega
   have hoc:∀ u∈(#[.string p.1]:Array Value).toList,u.oneCell'=true:=by
    intro u hu;simp only [ad9,aiR,apW]at hu;subst hu;rfl
   go_wp2_with (at_builtin;go_must (refine Ah (w0:=w0) ah _ _ _ ah _ i _ underlying125 hi hz0 hz1 ah oQ ah ah hoc hb1.aT (Ez _ _ _ 1 1 1 ah) h63 hby ?_);intro v2 w2 hS2 hne)
   go_roundg todo'.length
   case measure=>omega
   case rel=>
    refine ⟨ks++[p.1],todo',left',rfl,Hl.o,?_,?_⟩
    ·refine List.Perm.trans ?_ DT.o;rw [ad2];exact List.Perm.append_left ks (show List.Perm ((p::todo').map (·.1)) _ from (Hp.o.map (·.1)).symm)
    ·have:strs (ks++[p.1])=strs ks++[.string p.1]:=by simp [strs]
     rw [this];exact hS2.sel 3 [0,2] rfl rfl
theorem agl (h:Sat w0 w (omap .string b (dR bs l)::F)) :
  Calls prog 60 #[.map (some b)] w (aN λv w'=>∃ b',v=.map (some b')/\Sat w0 w' (omap .string b' (dR bs l)::omap .string b (dR bs l)::F)):=by
 have hn:=Rj h;have hmm:=@run_makeMap prog;have h0:=h.Ld .string;have Hn:=uQ hn;clear hn;go_enter func60,ntmps60;go_wp2_with (at_range;go_must (refine UY ah _ _ _ _ ah underlying128 ah h0.aT ?_);intro r w1 hS)
 go_frame
 generalize w.heap.size=b' at *
 go_loopg [4,5] l.length (λg _ _ wr=>∃ (done todo:Names) (left:List (Value×Value)),g=todo.length/\left.Perm (dR bs todo)/\(done++todo).Perm l /\
   Sat w0 wr (omap .string b' (dR bs done)::rng .string b r (dR bs l) left::F))
 case atStart=>exact ⟨[],l,_,rfl,aoF _,aoF _,hS.aT⟩
 case round=>
  obtain ⟨done,todo,left,rfl,hleft,hperm,hS⟩:=hrel;have FD:=uQ hleft;have DT:=uQ hperm;clear hleft hperm;go_wp2_with (at_next;go_must (refine UW ah _ ah ah hS.aT ?_ ?_))
  ·intro hnil;have FK:=uQ hnil;clear hnil;have h0:todo=[]:=by
    have:=FD.o;rw [FK.o]at this;simpa [dR] using this.symm
   subst h0;have hk:done.Perm l:=by simpa using DT.o
   have Hk:=uQ hk;clear hk;go_wp2;go_ret;refine ⟨_,rfl,b',rfl,?_⟩;exact ((hS.aT.Ti).aT).Le (KH Hk.o)
  ·intro k v left' w1 hp hS1 hen;obtain ⟨p,todo',hp',rfl,rfl,hl'⟩:=Rk (FD.o.symm.trans hp);have hlen2:todo.length=todo'.length+1:=by have:=hp'.length_eq;simpa using this
   have hkey:∀ x∈dR bs done,x.1 ≠ .string p.1:=by
    intro x hx e;obtain ⟨q,hq,rfl⟩:=adu.1 hx;simp only [Value.string.injEq]at e;have h1:=((DT.o.map (·.1)).nodup_iff.2 Hn.o);rw [aef,List.nodup_append]at h1;exact h1.2.2 q.1 (adu.2 ⟨q,hq,rfl⟩) p.1 (adu.2 ⟨p,hp'.mem_iff.2 (.head _),rfl⟩) e
   have hside:(dR bs done).Perm (dR bs done)/\(∀ x∈dR bs done,x.1 ≠ .string p.1)\/∃ v0,(dR bs done).Perm ((.string p.1,v0)::dR bs done):= .inl ⟨aoF _,hkey⟩;have aeP:=uQ hside;clear hside hkey;have Hp:=uQ hp';have Hl:=uQ hl';clear hp hp' hl';generalize hq:ptr (bs.getD p.2 0)=q at *
   have Hq:=uQ hq;clear hq;go_wp2_with (at_mapUpdate;go_must (refine UZ (key:= .string p.1) ah _ _ _ ah underlying128 underlying9 ah ah ah trivial hS1.aT _ aeP.o ?_);intro w2 hS2)
   go_roundg todo'.length
   case measure=>omega
   case rel=>
    refine ⟨p::done,todo',left',rfl,Hl.o,?_,?_⟩
    ·refine List.Perm.trans ?_ DT.o;exact (ao2.symm).trans (List.Perm.append_left done Hp.o.symm)
    ·show Sat w0 _ (omap .string b' ((.string p.1,ptr (bs.getD p.2 0))::dR bs done)::_);rw [Hq.o];exact hS2
theorem Dc (hM:M.Ok K) (h:Sat w0 w (aI m M::F)) (s:ByteArray) :
  Calls prog 95 #[ptr m,.string s] w (aN λv w'=>v=.tuple #[.int .i64 (M.size s).1,errno (M.size s).2]/\w=w'):=by
 obtain ⟨bs,fb,nb,wv,hl,hR⟩:=aI.open h;cases ho:M.off
 ·cases hn:bH M.now s with
  |none=>
   have hf:=BF (s:=s) hR ho hn;have bF:Hid (M.size s=(0,9)):=by show _=_;simp [ak.size,ho,hn]
   clear ho hn;go_enter func95,ntmps95;go_wp2_with (go_at_call 76;refine hf.mono ?_;rintro e w1 ⟨v,rfl,rfl,rfl⟩)
   go_ret2
   exact ⟨_,rfl,by rw [bF.o];rfl,rfl⟩
  |some i=>
   have hf:=BH (s:=s) hR ho hn;have hid:i<M.files.length:=hM.fU.ids (s,i) (ji hn);obtain ⟨fa,fn,fc,na,nc,wv',f0,f1,f2,_,_,_,hna⟩:=JR (hR.sel 3 [2] rfl rfl) hl hid;have bF:Hid (M.size s=(((M.file i).now.length:Int),0)):=by show _=_;simp [ak.size,ho,hn]
   clear ho hn hna;change w.cell? ⟨bs.getD i 0,1,none⟩=some (.slice na (M.file i).now.length nc) at f1;generalize bs.getD i 0=q at *
   go_enter func95,ntmps95;go_wp2_with (go_at_call 76;refine hf.mono ?_;rintro e w1 ⟨v,rfl,rfl,rfl⟩)
   go_ret2
   refine ⟨.tuple #[.int .i64 (M.file i).now.length,errno 0],rfl,?_,rfl⟩;rw [bF.o]
 ·have hf:=BG (s:=s) hR ho;have bF:Hid (M.size s=(0,12)):=by show _=_;simp [ak.size,ho]
  clear ho;go_enter func95,ntmps95;go_wp2_with (go_at_call 76;refine hf.mono ?_;rintro e w1 ⟨v,rfl,rfl,rfl⟩)
  go_ret2
  exact ⟨_,rfl,by rw [bF.o];rfl,rfl⟩
theorem OH (hM:M.Ok K) (h:Sat w0 w (aI m M::F)) (s:ByteArray) :
  Calls prog 26 #[ptr m,.string s] w (aN λv w'=>∃ bv,v=.tuple #[bv,errno (M.all s).2]/\Sat w0 w' (aY bv (M.all s).1::aI m M::F)):=by
 obtain ⟨bs,fb,nb,wv,hl,hR⟩:=aI.open h;cases ho:M.off
 ·cases hn:bH M.now s with
  |none=>
   have hf:=BF (s:=s) hR ho hn;have bF:Hid (M.all s=([],9)):=by show _=_;simp [ak.all,ho,hn]
   clear ho hn;go_enter func26,ntmps26;go_wp2_with (go_at_call 76;refine hf.mono ?_;rintro e w1 ⟨v,rfl,rfl,rfl⟩)
   go_ret2
   exact ⟨_,rfl,.slice none 0 0,by rw [bF.o];rfl,by rw [bF.o];exact Sat.dO.2 h⟩
  |some i=>
   have hf:=BH (s:=s) hR ho hn;have hid:i<M.files.length:=hM.fU.ids (s,i) (ji hn);obtain ⟨fa,fn,fc,na,nc,wv',f0,f1,f2,hrd,hcap,hnc,hna⟩:=JR (hR.sel 3 [2] rfl rfl) hl hid;have hcl:=xW h hrd (by have:=(hM.file i).uT;unfold ak.file at this;omega);have bF:Hid (M.all s=((M.file i).now,0)):=by show _=_;simp [ak.all,ho,hn]
   clear ho hn hrd hcap hnc hna;change w.cell? ⟨bs.getD i 0,1,none⟩=some (.slice na (M.file i).now.length nc) at f1;change Calls _ _ #[.slice na (M.file i).now.length nc] _ _ at hcl;generalize bs.getD i 0=q at *
   go_enter func26,ntmps26
   go_wp2_with (first
    |(go_at_call 76;refine hf.mono ?_;rintro e w1 ⟨v,rfl,rfl,rfl⟩)
    |(go_at_call 74;refine hcl.mono ?_;rintro e w1 ⟨v,rfl,hS,_⟩))
   go_ret2
   exact ⟨_,rfl,v,by rw [bF.o];rfl,by rw [bF.o];exact hS⟩
 ·have hf:=BG (s:=s) hR ho;have bF:Hid (M.all s=([],12)):=by show _=_;simp [ak.all,ho]
  clear ho;go_enter func26,ntmps26;go_wp2_with (go_at_call 76;refine hf.mono ?_;rintro e w1 ⟨v,rfl,rfl,rfl⟩)
  go_ret2
  exact ⟨_,rfl,.slice none 0 0,by rw [bF.o];rfl,by rw [bF.o];exact Sat.dO.2 h⟩
theorem SS {a:Option Addr}{n c lo k:Nat}{xs:List Value} (h:aW 1 (.slice a n c) xs w) (hk:lo+k<=n) (x:Option Addr) (hx:x=if c=lo then a else a.map (·.add lo)) (hc:n<=c) (c':Nat):aW 1 (.slice x k c') ((xs.drop lo).take k) w:=by
 obtain ⟨a',n',c'',he,hl,hcell⟩:=h;cases he;rw [aeo]at hl;refine ⟨x,k,c',rfl,by simp;omega,λi y hi=>?_⟩;rw [alM]at hi;split at hi
 ·rename_i hik;rw [aoz]at hi;obtain ⟨b,hb,hy⟩:=hcell _ y hi;subst hb;have:¬ c=lo:=by omega
  rw [abL this]at hx;refine ⟨b.add lo,by simpa using hx,?_⟩;have:(b.add lo).add i=b.add (lo+i):=by
   unfold Addr.add;by_cases h1:lo=0
   ·subst h1;simp
   ·by_cases h2:i=0
    ·subst h2;simp
    ·simp [h1,h2];omega
  rw [this];exact hy
 ·cases hi
theorem akZ (hM:M.Ok K) (h:Sat w0 w (aI m M::F)) (s:ByteArray) (at_ n:Int) (ha : -9223372036854775808<=at_/\at_<=9223372036854775807) (hn : -9223372036854775808<=n/\n<=9223372036854775807) :
  Calls prog 173 #[ptr m,.string s,.int .i64 at_,.int .i64 n] w (aN λv w'=>∃ bv,v=.tuple #[bv,errno (M.read s at_ n).2]/\Sat w0 w' (aY bv (M.read s at_ n).1::aI m M::F)):=by
 obtain ⟨bs,fb,nb,wv,hl,hR⟩:=aI.open h;obtain ⟨ha1,ha2⟩:=ha;obtain ⟨hn1,hn2⟩:=hn;cases ho:M.off
 ·cases hg:bH M.now s with
  |none=>
   have hf:=BF (s:=s) hR ho hg;have bF:Hid (M.read s at_ n=([],9)):=by show _=_;simp [ak.read,ho,hg]
   clear ho hg;go_enter func173,ntmps173;go_wp2_with (go_at_call 76;refine hf.mono ?_;rintro e w1 ⟨v,rfl,rfl,rfl⟩)
   go_ret2
   exact ⟨_,rfl,.slice none 0 0,by rw [bF.o];rfl,by rw [bF.o];exact Sat.dO.2 h⟩
  |some i=>
   have hf:=BH (s:=s) hR ho hg;have hid:i<M.files.length:=hM.fU.ids (s,i) (ji hg);obtain ⟨fa,fn,fc,na,nc,wv',f0,f1,f2,hrd,hcap,hnc,hna⟩:=JR (hR.sel 3 [2] rfl rfl) hl hid;have hnl:=(hM.file i).uT;change w.cell? ⟨bs.getD i 0,1,none⟩=some (.slice na (M.file i).now.length nc) at f1;change aW 1 (.slice na (M.file i).now.length nc) (aB (M.file i).now) w at hrd;change (M.file i).now.length<=nc at hcap;generalize hL:(M.file i).now=L at *
   have HL:=uQ hL;clear hL;generalize bs.getD i 0=q at *
   have Hg:=uQ hg;have Ho:=uQ ho;clear hg ho;have hread:∀ x:Bs×Int,x=(if at_<0\/n<0 then ([],2) else if (L.length:Int)<at_\/(L.length:Int)-at_<n then ([],3) else ((L.drop at_.toNat).take n.toNat,0))->M.read s at_ n=x:=by
    rintro x rfl;simp only [ak.read,Ho.o,Hg.o,HL.o,aip,ao7]
   have qF:=uQ hread;clear hread;by_cases h1:at_<0
   ·go_enter func173,ntmps173;go_wp2_with (go_at_call 76;refine hf.mono ?_;rintro e w1 ⟨v,rfl,rfl,rfl⟩)
    go_ret2
    have:=qF.o _ (adU (.inl h1)).symm;exact ⟨_,rfl,.slice none 0 0,by rw [this];rfl,by rw [this];exact Sat.dO.2 h⟩
   have h1':decide (at_<0)=false:=by simpa using h1
   by_cases h2:n<0
   ·go_enter func173,ntmps173;go_wp2_with (go_at_call 76;refine hf.mono ?_;rintro e w1 ⟨v,rfl,rfl,rfl⟩)
    go_ret2
    have:=qF.o _ (adU (.inr h2)).symm;exact ⟨_,rfl,.slice none 0 0,by rw [this];rfl,by rw [this];exact Sat.dO.2 h⟩
   have h2':decide (n<0)=false:=by simpa using h2
   obtain ⟨a,rfl⟩:=Int.eq_ofNat_of_zero_le (show 0<=at_ by omega);obtain ⟨k,rfl⟩:=Int.eq_ofNat_of_zero_le (show 0<=n by omega);have h12:¬ ((a:Int)<0\/(k:Int)<0):=by omega
   by_cases h3:(L.length:Int)<a
   ·go_enter func173,ntmps173;go_wp2_with (go_at_call 76;refine hf.mono ?_;rintro e w1 ⟨v,rfl,rfl,rfl⟩)
    go_ret2
    have:=qF.o _ ((abL h12).trans (adU (.inl h3))).symm;exact ⟨_,rfl,.slice none 0 0,by rw [this];rfl,by rw [this];exact Sat.dO.2 h⟩
   have h3':decide ((L.length:Int)<a)=false:=by simpa using h3
   by_cases h4:(L.length:Int)-a<k
   ·go_enter func173,ntmps173;go_wp2_with (go_at_call 76;refine hf.mono ?_;rintro e w1 ⟨v,rfl,rfl,rfl⟩)
    go_ret2
    have:=qF.o _ ((abL h12).trans (adU (.inr h4))).symm;exact ⟨_,rfl,.slice none 0 0,by rw [this];rfl,by rw [this];exact Sat.dO.2 h⟩
   have h4':decide ((L.length:Int)-a<k)=false:=by simpa using h4
   have x8:¬ ((L.length:Int)<a\/(L.length:Int)-a<k):=by omega
   have hfin:=qF.o _ ((abL h12).trans (abL x8)).symm;have bF:=uQ hfin;clear hfin;have hcl:∀ x,x=(if nc=a then na else na.map (·.add a))->Calls prog 74 #[.slice x k (nc-a)] w (aN λv' w'=>Sat w0 w' (aY v' ((L.drop a).take k)::aI m M::F)/\∃ a n c,v'=.slice a n c):=by
    intro x hx;refine xW h ?_ yT0;have:=SS (lo:=a) (k:=k) hrd oQ x hx hcap (nc-a);simpa [aB,apY,List.map_drop] using this
   have gK:=uQ hcl;clear hcl hrd;have e5:(a:Int)+k<=nc:=by omega
   rcases hna with ⟨rfl,rfl⟩|⟨g,rfl⟩
   ·obtain rfl:a=0:=by omega
    obtain rfl:k=0:=by omega
    have hcl:=gK.o none yF0;simp only [aph]at hcl;clear qF gK;go_enter func173,ntmps173;go_wp2_with (first|(go_at_call 76;refine hf.mono ?_;rintro e w1 ⟨v,rfl,rfl,rfl⟩)|(go_at_call 74;go_must (refine hcl.mono ?_);rintro e w1 ⟨v,rfl,hS,_⟩))
    go_ret2
    exact ⟨_,rfl,v,by rw [bF.o];rfl,by rw [bF.o];exact hS⟩
   ·clear qF;by_cases hca:nc=a
    ·subst hca;obtain rfl:k=0:=by omega
     have hcl:=gK.o (some ⟨g,0,none⟩) yF0;simp only [aph]at hcl;clear gK;go_enter func173,ntmps173;go_wp2_with (first|(go_at_call 76;refine hf.mono ?_;rintro e w1 ⟨v,rfl,rfl,rfl⟩)|(go_at_call 74;go_must (refine hcl.mono ?_);rintro e w1 ⟨v,rfl,hS,_⟩))
     go_ret2
     exact ⟨_,rfl,v,by rw [bF.o];rfl,by rw [bF.o];exact hS⟩
    ·have hcl:=gK.o (some ⟨g,a,none⟩) (by rw [abL hca];simp [sO]);clear gK;go_enter func173,ntmps173;go_wp2_with (first|(go_at_call 76;refine hf.mono ?_;rintro e w1 ⟨v,rfl,rfl,rfl⟩)|(go_at_call 74;go_must (refine hcl.mono ?_);rintro e w1 ⟨v,rfl,hS,_⟩))
     go_ret2
     exact ⟨_,rfl,v,by rw [bF.o];rfl,by rw [bF.o];exact hS⟩
 ·have hf:=BG (s:=s) hR ho;have bF:Hid (M.read s at_ n=([],12)):=by show _=_;simp [ak.read,ho]
  clear ho;go_enter func173,ntmps173;go_wp2_with (go_at_call 76;refine hf.mono ?_;rintro e w1 ⟨v,rfl,rfl,rfl⟩)
  go_ret2
  exact ⟨_,rfl,.slice none 0 0,by rw [bF.o];rfl,by rw [bF.o];exact Sat.dO.2 h⟩
theorem aaE (room:Nat) (hr:room<=16777216) (h:Sat w0 w F) :
  Calls prog 31 #[.int .i64 room] w (aN λv w'=>∃ m,v=.tuple #[ptr m,errno 0]/\Sat w0 w' (aI m (ak.new room)::F)):=by
 have h2:decide ((room:Int)<0)=false:=by rw [aeJ];omega
 have h3:decide (16777216<(room:Int))=false:=by rw [aeJ];omega
 have hmm:=@run_makeMap prog;have hA:=((h.Ld .string).Ld .string);have hB:=hA.alloc (.cells #[.int .i64 room,.map (some w.heap.size),.map (some (w.heap.size+1)),.slice none 0 0,.bool false,.int .i64 0,.bool false] 131);go_enter func31,ntmps31;go_wp2
 go_ret2
 refine ⟨_,rfl,_,rfl,?_⟩;refine aI.shut (bs:=[]) (fb:=w.heap.size) (nb:=w.heap.size+1) (wv:= .slice none 0 0) rfl ?_;have h5:Sat w0 _ (aC 135 3 (.slice none 0 0) []::Sl.emp::_::_::_::F):=Sat.dO.2 (Sat.emp.2 hB);simp only [World.size_alloc]at h5;exact h5.sel 5 [2,3,1,4,0] rfl rfl
theorem KF (hM:M.Ok K) (h:Sat w0 w (aI m M::F)) :
  Calls prog 55 #[ptr m] w (aN λv w'=>Sat w0 w' (aC 9 1 v (strs M.list)::aI m M::F)/\∃ a n c,v=.slice a n c):=by
 obtain ⟨bs,fb,nb,wv,hl,hR⟩:=aI.open h;have hd:=Bz hR;have c2:=hR.cellAt 2 _ rfl;cases ho:M.off
 ·rw [ho]at hd;have hnm:=ajE (hR.sel 5 [1,0,2,3,4] rfl rfl) hM.fU.oM (by have:=hM.fU.len;omega);have bF:Hid (M.list=M.now.map (·.1)):=by show _=_;simp [ak.list,ho]
  clear ho;go_enter func55,ntmps55;go_wp2_with (first|(go_at_call 58;refine hd.mono ?_;rintro e w1 ⟨v,rfl,rfl,rfl⟩)|(go_at_call 62;go_must (refine hnm.mono ?_);rintro e w1 ⟨v,rfl,hS,a1,n1,k1,rfl⟩));go_ret;refine ⟨_,rfl,?_,_,_,_,rfl⟩;rw [bF.o];exact (aI.shut hl (hS.sel 6 [2,1,3,4,5,0] rfl rfl)).aT
 ·rw [ho]at hd;have bF:Hid (M.list=[]):=by show _=_;simp [ak.list,ho]
  clear ho;go_enter func55,ntmps55;go_wp2_with (go_at_call 58;refine hd.mono ?_;rintro e w1 ⟨v,rfl,rfl,rfl⟩);go_ret;refine ⟨.slice none 0 0,rfl,?_,_,_,_,rfl⟩;rw [bF.o];exact Sat.dO.2 h
theorem Yu (bs:List Nat) (b i:Nat) (h:i<bs.length):(bs++[b]).getD i 0=bs.getD i 0:=by
 simp [adV,aek h]
theorem aan (h:∀ p∈l,p.2<bs.length) (b:Nat):dR (bs++[b]) l=dR bs l:=by
 unfold dR;apply aj6;intro p hp;rw [Yu bs b p.2 (h p hp)]
theorem ajl {ws:List gU} (h:∀ x∈ws,x.to≠ByteArray.empty->x.f<bs.length) (b:Nat):ws.flatMap (oG (bs++[b]))=ws.flatMap (oG bs):=by
 induction ws with
 |nil=>rfl
 |cons x ws ih=>
  rw [aen,aen,ih λy hy=>h y (.tail _ hy)]
  congr 1
  unfold oG;by_cases ht:x.to=ByteArray.empty
  ·simp [ht]
  ·simp only [abL ht];rw [Yu bs b x.f (h x (.head _) ht)]
theorem aji (h:Sat w0 w (omap .string b (dR bs l)::F)) (ty:TypeId):(Builtin.len_ #[128] ty #[.map (some b)]).run prog w=.ok (.int .i64 l.length) w:=by
 have:=al3 (P:=prog) underlying128 ty h;simpa [dR] using this
theorem vZ (h:Sat w0 w (oV m M.step.1 fb nb wv::[omap .string nb (dR bs M.now),pJ bs M.files,omap .string fb (dR bs M.fast),aC 135 3 wv (M.waits.flatMap (oG bs))]++F)):Sat w0 w (xP m M.step.1 bs fb nb wv++F):=by
 obtain ⟨e1,e2,e3,e4,e5⟩:=M.jf;unfold xP;rw [e2,e3,e4,e5];exact h
theorem adS (h:Sat w0 w (Ea b (.slice none 0 0) (.slice none 0 0) (.slice none 0 0)::F)):Sat w0 w (lI b aX.new::F):=by
 refine lI.shut (fv:= .slice none 0 0) (nv:= .slice none 0 0) (wv:= .slice none 0 0) (ws:=[]) rfl ?_;have h1:Sat w0 w (aY (.slice none 0 0) []::aY (.slice none 0 0) []::aC 182 3 (.slice none 0 0) []::pG []::_):=Sat.dO.2 (Sat.dO.2 (Sat.dO.2 (Sat.emp.2 h)));exact h1.sel 5 [4,0,1,2,3] rfl rfl
theorem agp (hM:M.Ok K) (hK:K<=1099511627776) (hl:bs.length=M.files.length) (hs:s≠ByteArray.empty) (h:Sat w0 w (xP m M bs fb nb wv++F)) :
  Calls prog 83 #[ptr m,.agg #[.string { data:=#[] },.string s,ptr w.heap.size]] (w.alloc (.cells #[.slice none 0 0,.slice none 0 0,.slice none 0 0] 157))
   (aN λ_ w'=>Sat w0 w' (aI m (({ M with files:=M.files++[aX.new] }:ak).link ⟨ByteArray.empty,s,M.files.length⟩)::F)):=by
 have h1:=h.alloc (.cells #[.slice none 0 0,.slice none 0 0,.slice none 0 0] 157);have h2:=adS h1;generalize w.heap.size=q at *
 have e1:dR (bs++[q]) M.now=dR bs M.now:=aan (λp hp=>by rw [hl];exact hM.fU.ids p hp) q;have e2:dR (bs++[q]) M.fast=dR bs M.fast:=aan (λp hp=>by rw [hl];exact hM.ag1.ids p hp) q;have e3:M.waits.flatMap (oG (bs++[q]))=M.waits.flatMap (oG bs):=ajl (λx hx ht=>by rw [hl];exact hM.links x hx ht) q;have e4:pJ (bs++[q]) (M.files++[aX.new])=star (lI q aX.new) (pJ bs M.files):=X7 _ _ _ _ hl;have h3:Sat w0 _ (lI q aX.new::pJ bs M.files::oV m M fb nb wv::omap .string nb (dR bs M.now)::aC 135 3 wv (M.waits.flatMap (oG bs))::omap .string fb (dR bs M.fast)::F):=h2.sel 6 [0,3,1,2,5,4] rfl rfl;have h4:=Sat.star.2 h3;rw [<-e4,<-e1,<-e2,<-e3]at h4;have h5:=h4.sel 5 [1,2,3,0,4] rfl rfl;have hlk:=ZW (M:={ M with files:=M.files++[aX.new] }) (bs:=bs++[q]) ⟨ByteArray.empty,s,M.files.length⟩ h5 (adT hM.budget hK);have e5:pU (bs++[q]) ⟨ByteArray.empty,s,M.files.length⟩=ptr q:=by
  unfold pU;rw [abL hs];simp [adV,<-hl]
 rw [e5]at hlk;refine hlk.mono ?_;rintro e w1 ⟨v,rfl,wv',hS⟩;refine ⟨v,rfl,aI.shut (bs:=bs++[q]) (fb:=fb) (nb:=nb) (wv:=wv') (by simp [ak.link,hl]) ?_⟩;exact hS.sel 5 [0,1,3,4,2] rfl rfl
theorem zi (hM:M.Ok K) (hK:K<=1099511627776) (h:Sat w0 w (aI m M::F)) (s:ByteArray) (hs:s.size<=9223372036854775807) :
  Calls prog 36 #[ptr m,.string s] w (aN λv w'=>v=errno (M.create s).2/\Sat w0 w' (aI m (M.create s).1::F)):=by
 obtain ⟨bs,fb,nb,wv,hl,hR⟩:=aI.open h;have hd:=Bz hR;have hg:=Yz s w hs;have c2:=hR.cellAt 2 _ rfl;cases ho:M.off
 ·rw [ho]at hd;cases hgs:good s
  ·rw [hgs]at hg;have bF:Hid (M.create s=(M,7)):=by show _=_;simp [ak.create,ho,hgs]
   clear ho hgs;go_enter func36,ntmps36;go_wp2_with (first|(go_at_call 58;refine hd.mono ?_;rintro e w1 ⟨v,rfl,rfl,rfl⟩)|(go_at_call 81;refine hg.mono ?_;rintro e w1 ⟨v,rfl,rfl,rfl⟩));go_ret;exact ⟨errno 7,rfl,by rw [bF.o],by rw [bF.o];exact h⟩
  rw [hgs]at hg;have hlk:=Q9 (s:=s) (hR.aT);cases hn:bH M.now s with
  |some i=>
   have bF:Hid (M.create s=(M,10)):=by show _=_;simp [ak.create,ho,hgs,hn]
   rw [BL,hn]at hlk;clear ho hgs hn;simp only at hlk;generalize bs.getD i 0=q at hlk;go_enter func36,ntmps36;go_wp2_with (first|(go_at_call 58;refine hd.mono ?_;rintro e w1 ⟨v,rfl,rfl,rfl⟩)|(go_at_call 81;refine hg.mono ?_;rintro e w1 ⟨v,rfl,rfl,rfl⟩));go_ret;exact ⟨errno 10,rfl,by rw [bF.o],by rw [bF.o];exact h⟩
  |none=>
   rw [BL,hn]at hlk;simp only at hlk;have hlen:=λty=>aji (hR.aT) ty;by_cases Qh:500<=(M.now.length:Int)
   ·have bF:Hid (M.create s=(M,16)):=by
     show _=_;have:500<=M.now.length:=by omega
     simp [ak.create,ho,hgs,hn,this]
    clear ho hgs hn;go_enter func36,ntmps36;go_wp2_with (first|(go_at_call 58;refine hd.mono ?_;rintro e w1 ⟨v,rfl,rfl,rfl⟩)|(go_at_call 81;refine hg.mono ?_;rintro e w1 ⟨v,rfl,rfl,rfl⟩));go_ret;exact ⟨errno 16,rfl,by rw [bF.o],by rw [bF.o];exact h⟩
   have JX:¬ 500<=M.now.length:=by omega
   have hb5:decide ((500:Int)<=(M.now.length:Int))=false:=by rw [aeJ];exact Qh
   have hst:=Dh hR hM.left;cases hstep:M.step.2
   ·rw [hstep]at hst;have bF:Hid (M.create s=(M.step.1,12)):=by show _=_;simp [ak.create,ho,hgs,hn,JX,hstep]
    clear ho hgs hn hstep Qh JX;go_enter func36,ntmps36;go_wp2_with (first|(go_at_call 58;refine hd.mono ?_;rintro e w1 ⟨v,rfl,rfl,rfl⟩)|(go_at_call 81;refine hg.mono ?_;rintro e w1 ⟨v,rfl,rfl,rfl⟩)|(go_at_call 82;refine hst.mono ?_;rintro e w1 ⟨v,rfl,rfl,hS1⟩));go_ret;refine ⟨errno 12,rfl,by rw [bF.o],?_⟩;rw [bF.o];exact aI.shut (bs:=bs) (fb:=fb) (nb:=nb) (wv:=wv) yY0 (vZ hS1)
   ·rw [hstep]at hst;have bF:Hid (M.create s=(({ M.step.1 with files:=M.files++[aX.new] }:ak).link ⟨ByteArray.empty,s,M.files.length⟩,0)):=by show _=_;simp [ak.create,ho,hgs,hn,JX,hstep]
    have hne:=tu hgs;clear ho hgs hn hstep Qh JX;have hl':bs.length=M.step.1.files.length:=by rw [M.jf.2.2.2.1];exact hl
    have Az:=uQ hl';clear hl';go_enter func36,ntmps36;go_wp2_with (first|(go_at_call 58;refine hd.mono ?_;rintro e w1 ⟨v,rfl,rfl,rfl⟩)|(go_at_call 81;refine hg.mono ?_;rintro e w1 ⟨v,rfl,rfl,rfl⟩)|(go_at_call 82;refine hst.mono ?_;rintro e w1 ⟨v,rfl,rfl,hS1⟩)|(go_at_call 83;go_must (refine (agp hM.step hK Az.o hne (vZ hS1)).mono ?_);rintro e w2 ⟨v2,rfl,hS2⟩));go_ret;refine ⟨errno 0,rfl,by rw [bF.o],?_⟩;rw [bF.o];have e4:=M.jf.2.2.2.1;rw [e4]at hS2;exact hS2
 ·rw [ho]at hd;have bF:Hid (M.create s=(M,12)):=by show _=_;simp [ak.create,ho]
  clear ho;go_enter func36,ntmps36;go_wp2_with (go_at_call 58;refine hd.mono ?_;rintro e w1 ⟨v,rfl,rfl,rfl⟩);go_ret;exact ⟨errno 12,rfl,by rw [bF.o],by rw [bF.o];exact h⟩
theorem abo (hl:bs.length=M.files.length){i:Nat} (hi:i<M.files.length) (h:Sat w0 w (xP m M bs fb nb wv++F)) :
  ∃ G:aF,Sat w0 w (lI (bs.getD i 0) (M.file i)::oV m M fb nb wv::omap .string nb (dR bs M.now)::omap .string fb (dR bs M.fast)::aC 135 3 wv (M.waits.flatMap (oG bs))::G::F) /\
   ∀ (w':World) (f':aX),Sat w0 w' (lI (bs.getD i 0) f'::oV m M fb nb wv::omap .string nb (dR bs M.now)::omap .string fb (dR bs M.fast)::aC 135 3 wv (M.waits.flatMap (oG bs))::G::F)->Sat w0 w' (aI m (M.eP i f')::F):=by
 obtain ⟨G,h1,h2⟩:=PO bs M.files i hl hi;refine ⟨G,?_,λw' f' h'=>?_⟩
 ·have h3:=h.sel 5 [2,0,1,3,4] rfl rfl;have h4:Sat w0 w (pJ bs M.files::oV m M fb nb wv::omap .string nb (dR bs M.now)::omap .string fb (dR bs M.fast)::aC 135 3 wv (M.waits.flatMap (oG bs))::F):=h3;rw [h1]at h4;exact (Sat.star.1 h4).sel 6 [0,2,3,4,5,1] rfl rfl
 ·refine aI.shut (bs:=bs) (fb:=fb) (nb:=nb) (wv:=wv) (by simp [ak.eP,hl]) ?_;have h4:Sat w0 w' (lI (bs.getD i 0) f'::G::oV m M fb nb wv::omap .string nb (dR bs M.now)::omap .string fb (dR bs M.fast)::aC 135 3 wv (M.waits.flatMap (oG bs))::F):=h'.sel 6 [0,5,1,2,3,4] rfl rfl;have h5:=Sat.star.2 h4;rw [<-h2]at h5;exact h5.sel 5 [1,2,0,3,4] rfl rfl
theorem Uk (hM:M.Ok K) (h:Sat w0 w (aI m M::F)) (s:ByteArray) :
  Calls prog 56 #[ptr m,.string s] w (aN λv w'=>v=errno (M.sync s).2/\Sat w0 w' (aI m (M.sync s).1::F)):=by
 obtain ⟨bs,fb,nb,wv,hl,hR⟩:=aI.open h;cases ho:M.off
 ·cases hn:bH M.now s with
  |none=>
   have hf:=BF (s:=s) hR ho hn;have bF:Hid (M.sync s=(M,9)):=by show _=_;simp [ak.sync,ho,hn]
   clear ho hn;go_enter func56,ntmps56;go_wp2_with (go_at_call 76;refine hf.mono ?_;rintro e w1 ⟨v,rfl,rfl,rfl⟩);go_ret;exact ⟨errno 9,rfl,by rw [bF.o],by rw [bF.o];exact h⟩
  |some i=>
   have hf:=BH (s:=s) hR ho hn;have hid:i<M.files.length:=hM.fU.ids (s,i) (ji hn);have hst:=Dh hR hM.left;cases hstep:M.step.2
   ·rw [hstep]at hst;have bF:Hid (M.sync s=(M.step.1,12)):=by show _=_;simp [ak.sync,ho,hn,hstep]
    clear ho hn hstep;go_enter func56,ntmps56;go_wp2_with (first|(go_at_call 76;refine hf.mono ?_;rintro e w1 ⟨v,rfl,rfl,rfl⟩)|(go_at_call 82;refine hst.mono ?_;rintro e w1 ⟨v,rfl,rfl,hS1⟩));go_ret;refine ⟨errno 12,rfl,by rw [bF.o],?_⟩;rw [bF.o];exact aI.shut (bs:=bs) (fb:=fb) (nb:=nb) (wv:=wv) yY0 (vZ hS1)
   ·rw [hstep]at hst;have bF:Hid (M.sync s=(M.step.1.eP i (M.file i).sync,0)):=by show _=_;simp [ak.sync,ho,hn,hstep]
    clear ho hn hstep;have hl':bs.length=M.step.1.files.length:=by rw [M.jf.2.2.2.1];exact hl
    have Qp:i<M.step.1.files.length:=by rw [M.jf.2.2.2.1];exact hid
    have hfe:M.step.1.file i=M.file i:=by unfold ak.file;rw [M.jf.2.2.2.1]
    have hnl:=(hM.file i).uT;have Az:=uQ hl';have NZ:=uQ hfe;clear hl' hfe;generalize hq:bs.getD i 0=q at hf;have Hq:=uQ hq;clear hq;go_enter func56,ntmps56;go_wp2_with (first|(go_at_call 76;refine hf.mono ?_;rintro e w1 ⟨v,rfl,rfl,rfl⟩)|(go_at_call 82;fail));refine hst.mono ?_;rintro e w1 ⟨v,rfl,rfl,hS1⟩;obtain ⟨G,h1,h2⟩:=abo Az.o Qp (vZ hS1);rw [NZ.o,Hq.o]at h1;rw [Hq.o]at h2;obtain ⟨fv,nv,wv',ws,hws,h3⟩:=lI.open h1;have H2:=uQ h2;clear h2 hS1 h1 hws;have h4:Sat w0 w1 (Ea q fv nv wv'::aY nv (M.file i).now::_):=h3.sel 3 [0,2] rfl rfl;have c1:=h4.cellAt 1 _ rfl;obtain ⟨na,nn,nc,rfl⟩:=O6 h4.aT;have hcl:=xW h4 h4.aT.rd oQ;go_wp2_with (go_at_call 74;go_must (refine hcl.mono ?_);rintro e w2 ⟨v2,rfl,hS2,a2,n2,k2,rfl⟩;have g0:=hS2.aT.oC 0;have g2:=hS2.aT.oC 2;have d0:=hS2.aT.cellAt 0 _ rfl;have d2:=hS2.aT.cellAt 2 _ rfl);go_ret
    refine ⟨errno 0,rfl,by rw [bF.o],?_⟩;rw [bF.o];refine H2.o _ _ ?_;have h5:=(hS2.aT.set 0 (.slice a2 n2 k2)).set 2 (.slice none 0 0);refine lI.shut (fv:= .slice a2 n2 k2) (nv:= .slice na nn nc) (wv:= .slice none 0 0) (ws:=[]) rfl ?_;have h6:Sat w0 _ (aC 182 3 (.slice none 0 0) []::pG []::_::_::_::aC _ _ _ _::pG _::_):=Sat.dO.2 (Sat.emp.2 h5);exact h6.sel 7 [2,3,4,0,1] rfl rfl
 ·have hf:=BG (s:=s) hR ho;have bF:Hid (M.sync s=(M,12)):=by show _=_;simp [ak.sync,ho]
  clear ho;go_enter func56,ntmps56;go_wp2_with (go_at_call 76;refine hf.mono ?_;rintro e w1 ⟨v,rfl,rfl,rfl⟩);go_ret;exact ⟨errno 12,rfl,by rw [bF.o],by rw [bF.o];exact h⟩
theorem Tj {lb:Bs} (hr:Ro w0 F (aW 1 bv (aB lb))){A:aF} (h:Sat w0 w (A::F)):∃ a n c,bv=.slice a n c/\n=lb.length:=by
 obtain ⟨a,n,c,rfl,hl,_⟩:=hr w h.drop;rw [aP,aeo]at hl;exact ⟨a,n,c,rfl,hl.symm⟩
theorem Bg (hM:M.Ok K) (hK:K<=1099511627776) (h:Sat w0 w (aI m M::F)) (s:ByteArray) (lb:Bs) (hr:Ro w0 F (aW 1 bv (aB lb))) :
  Calls prog 38 #[ptr m,.string s,bv] w (aN λv w'=>v=errno (M.append s lb).2/\Sat w0 w' (aI m (M.append s lb).1::F)):=by
 obtain ⟨bs,fb,nb,wv,hl,hR⟩:=aI.open h;cases ho:M.off
 ·cases hn:bH M.now s with
  |none=>
   obtain ⟨ba,bn,bc,rfl,hbn⟩:=Tj hr h;clear hbn;have hf:=BF (s:=s) hR ho hn;have bF:Hid (M.append s lb=(M,9)):=by show _=_;simp [ak.append,ho,hn]
   clear ho hn hr;go_enter func38,ntmps38;go_wp2_with (go_at_call 76;refine hf.mono ?_;rintro e w1 ⟨v,rfl,rfl,rfl⟩);go_ret;exact ⟨errno 9,rfl,by rw [bF.o],by rw [bF.o];exact h⟩
  |some i=>
   have hf:=BH (s:=s) hR ho hn;have hid:i<M.files.length:=hM.fU.ids (s,i) (ji hn);obtain ⟨ba,bn,bc,rfl,hbn⟩:=Tj hr h;have hu:=anL (w:=w.drew) (m:=m) (M:=M) (fb:=fb) (nb:=nb) (wv:=wv) (bs:=bs) hR.drew hl hM.fU.ids (by have:=hM.ET;omega);have hut:M.wu=M.used:=by simp [ak.wu,ho]
   rw [hut]at hu;have hu2:=hM.ET;have hr2:=hM.room;have c0:=hR.cellAt 0 _ rfl;have Hr:=uQ hr;clear hr;clear hut;by_cases hfull:(M.room:Int)-M.used<lb.length
   ·have bF:Hid (M.append s lb=(M,11)):=by show _=_;simp [ak.append,ho,hn,hfull]
    clear ho hn;subst hbn;have hwr:IntKind.i64.wrap ((M.room:Int)-(M.used:Int))=(M.room:Int)-(M.used:Int):=acO _ oQ;go_enter func38,ntmps38;go_wp2_with (go_at_call 76;refine hf.mono ?_;rintro e w1 ⟨v,rfl,rfl,rfl⟩);refine eF [8,9] (λw'=>w'.cell? ⟨m,0,none⟩=some (.int .i64 M.room)) au ?_;have hG:=c0;refine yA0 0 ?_;refine yA0 1 ?_;refine yA0 2 ?_;refine yA0 3 ?_;refine yA0 4 ?_;refine yB0 5 ?_;refine yA0 6 ?_;refine qX (i:=7) rfl au (λK hK=>?_);go_simp;refine hu.mono ?_;rintro e w1 ⟨v,rfl,rfl,zB⟩;refine hK _ _ (.inr (.inl (zB.cellAt 0 _ rfl))) ?_;clear hK K hG;refine yA0 8 ?_;refine yA0 9 ?_;refine dX au ?_;clear hwr;go_wp2;go_ret;exact ⟨errno 11,rfl,by rw [bF.o],by rw [bF.o];exact aI.shut hl zB⟩
   have aoU:decide ((M.room:Int)-M.used<lb.length)=false:=by rw [aeJ];exact hfull
   cases hstep:M.step.2
   ·have bF:Hid (M.append s lb=(M.step.1,12)):=by show _=_;simp [ak.append,ho,hn,hfull,hstep]
    have Hs:=uQ hstep;clear ho hn hstep hfull;subst hbn;have hwr:IntKind.i64.wrap ((M.room:Int)-(M.used:Int))=(M.room:Int)-(M.used:Int):=acO _ oQ;go_enter func38,ntmps38;go_wp2_with (go_at_call 76;refine hf.mono ?_;rintro e w1 ⟨v,rfl,rfl,rfl⟩);refine eF [8,9] (λw'=>w'.cell? ⟨m,0,none⟩=some (.int .i64 M.room)) au ?_;have hG:=c0;refine yA0 0 ?_;refine yA0 1 ?_;refine yA0 2 ?_;refine yA0 3 ?_;refine yA0 4 ?_;refine yB0 5 ?_;refine yA0 6 ?_;refine qX (i:=7) rfl au (λK hK=>?_);go_simp;refine hu.mono ?_;rintro e w1 ⟨v,rfl,rfl,zB⟩;refine hK _ _ (.inr (.inl (zB.cellAt 0 _ rfl))) ?_;clear hK K hG;refine yA0 8 ?_;refine yA0 9 ?_;refine dX au ?_;clear hwr;have hst:=Dh zB hM.left;rw [Hs.o]at hst;go_wp2_with (go_at_call 82;refine hst.mono ?_;rintro e w2 ⟨v,rfl,rfl,hS1⟩);go_ret;refine ⟨errno 12,rfl,by rw [bF.o],?_⟩;rw [bF.o]
    exact aI.shut (bs:=bs) (fb:=fb) (nb:=nb) (wv:=wv) yY0 (vZ hS1)
   ·have bF:Hid (M.append s lb=(M.step.1.eP i ((M.file i).do ⟨false,0,lb⟩),0)):=by show _=_;simp [ak.append,ho,hn,hfull,hstep]
    have Hs:=uQ hstep;have hfe:M.step.1.file i=M.file i:=by unfold ak.file;rw [M.jf.2.2.2.1]
    have Ze:=hM.file i;have hbig:lb.length<=16777216:=by omega
    clear ho hn hstep hfull;subst hbn;generalize hq:bs.getD i 0=q at hf;have Hq:=uQ hq;clear hq;have NZ:=uQ hfe;clear hfe;have bI:=uQ Ze;clear Ze;have hwr:IntKind.i64.wrap ((M.room:Int)-(M.used:Int))=(M.room:Int)-(M.used:Int):=acO _ oQ;go_enter func38,ntmps38;go_wp2_with (go_at_call 76;refine hf.mono ?_;rintro e w1 ⟨v,rfl,rfl,rfl⟩);refine eF [8,9] (λw'=>w'.cell? ⟨m,0,none⟩=some (.int .i64 M.room)) au ?_;have hG:=c0;refine yA0 0 ?_;refine yA0 1 ?_;refine yA0 2 ?_;refine yA0 3 ?_;refine yA0 4 ?_;refine yB0 5 ?_;refine yA0 6 ?_;refine qX (i:=7) rfl au (λK hK=>?_);go_simp;refine hu.mono ?_;rintro e w1 ⟨v,rfl,rfl,zB⟩;refine hK _ _ (.inr (.inl (zB.cellAt 0 _ rfl))) ?_;clear hK K hG;refine yA0 8 ?_;refine yA0 9 ?_;refine dX au ?_;clear hwr;have hst:=Dh zB hM.left;rw [Hs.o]at hst;go_wp2_with (go_at_call 82;fail);refine hst.mono ?_
    rintro e w2 ⟨v,rfl,rfl,hS1⟩;have hl':bs.length=M.step.1.files.length:=by rw [M.jf.2.2.2.1];exact hl
    have Qp:i<M.step.1.files.length:=by rw [M.jf.2.2.2.1];exact hid
    obtain ⟨G,h1,h2⟩:=abo hl' Qp (vZ hS1);rw [NZ.o,Hq.o]at h1;rw [Hq.o]at h2;have hrd:=Hr.o w2 (h1.sel 6 [] rfl rfl);have hcl:=xW h1 hrd oQ;go_wp2_with (go_at_call 74;fail);refine hcl.mono ?_;rintro e w3 ⟨v2,rfl,hS2,a2,n2,k2,rfl⟩;obtain ⟨fv,nv,wv',ws,hws,h3⟩:=lI.open hS2.aT;have hdo:=agD (bv:= .slice a2 n2 k2) ⟨false,0,lb⟩ (h3.sel 6 [0,1,2,3,4,5] rfl rfl) hws ⟨(λh=>by cases h),λ_=>by have:=bI.o.uT;simp only;omega⟩ (adT bI.o.budget hK);clear h3 hws hst hcl hrd h1 hu;go_wp2_with (go_at_call 90;go_must (refine hdo.mono ?_);rintro e w4 ⟨v4,rfl,hS4⟩);go_ret;refine ⟨errno 0,rfl,by rw [bF.o],?_⟩;rw [bF.o];exact h2 _ _ hS4
 ·obtain ⟨ba,bn,bc,rfl,hbn⟩:=Tj hr h;clear hbn;have hf:=BG (s:=s) hR ho;have bF:Hid (M.append s lb=(M,12)):=by show _=_;simp [ak.append,ho]
  clear ho hr;go_enter func38,ntmps38;go_wp2_with (go_at_call 76;refine hf.mono ?_;rintro e w1 ⟨v,rfl,rfl,rfl⟩);go_ret;exact ⟨errno 12,rfl,by rw [bF.o],by rw [bF.o];exact h⟩
theorem MK (hM:M.Ok K) (h:Sat w0 w (aI m M::F)) :
  Calls prog 57 #[ptr m] w (aN λv w'=>v=errno M.dH.2/\Sat w0 w' (aI m M.dH.1::F)):=by
 obtain ⟨bs,fb,nb,wv,hl,hR⟩:=aI.open h;have hd:=Bz hR;cases ho:M.off
 ·rw [ho]at hd;have hst:=Dh hR hM.left;cases hstep:M.step.2
  ·rw [hstep]at hst;have bF:Hid (M.dH=(M.step.1,12)):=by show _=_;simp [ak.dH,ho,hstep]
   clear ho hstep;go_enter func57,ntmps57;go_wp2_with (first|(go_at_call 58;refine hd.mono ?_;rintro e w1 ⟨v,rfl,rfl,rfl⟩)|(go_at_call 82;refine hst.mono ?_;rintro e w1 ⟨v,rfl,rfl,hS1⟩));go_ret;refine ⟨errno 12,rfl,by rw [bF.o],?_⟩;rw [bF.o];exact aI.shut (bs:=bs) (fb:=fb) (nb:=nb) (wv:=wv) yY0 (vZ hS1)
  ·rw [hstep]at hst;have bF:Hid (M.dH=({ M.step.1 with fast:=M.now,waits:=[] },0)):=by show _=_;simp [ak.dH,ho,hstep]
   clear ho hstep;go_enter func57,ntmps57;go_wp2_with (first|(go_at_call 58;refine hd.mono ?_;rintro e w1 ⟨v,rfl,rfl,rfl⟩)|(go_at_call 82;fail));refine hst.mono ?_;rintro e w1 ⟨v,rfl,rfl,hS1⟩;have c2:=hS1.cellAt 2 _ rfl;have hcp:=agl hS1.aT;go_wp2_with (go_at_call 60;go_must (refine hcp.mono ?_);rintro e w2 ⟨v,rfl,b',rfl,hS2⟩;have d1:=hS2.fE.cellAt 1 _ rfl;have d3:=hS2.fE.cellAt 3 _ rfl;have g1:=hS2.fE.oC 1;have g3:=hS2.fE.oC 3);go_ret;refine ⟨errno 0,rfl,by rw [bF.o],?_⟩;rw [bF.o];have h5:=(hS2.fE.set 1 (.map (some b'))).set 3 (.slice none 0 0);obtain ⟨e1,e2,e3,e4,e5⟩:=M.jf;refine aI.shut (bs:=bs) (fb:=b') (nb:=nb) (wv:= .slice none 0 0) (by simp only [e4];exact hl) ?_;have h6:Sat w0 _ (aC 135 3 (.slice none 0 0) []::_::_::_::_::_::aC _ _ _ _::F):=Sat.dO.2 h5;unfold xP;simp only [e3,e4];exact h6.sel 7 [1,3,4,2,0] rfl rfl
 ·rw [ho]at hd;have bF:Hid (M.dH=(M,12)):=by show _=_;simp [ak.dH,ho]
  clear ho;go_enter func57,ntmps57;go_wp2_with (go_at_call 58;refine hd.mono ?_;rintro e w1 ⟨v,rfl,rfl,rfl⟩);go_ret;exact ⟨errno 12,rfl,by rw [bF.o],by rw [bF.o];exact h⟩
def ints (l:List Int):List Value:=l.map (.int .i64)
def GV (x:Int):Prop:= -9223372036854775808<=x/\x<=9223372036854775807
def nN (v:Value):Prop:=∃ a n c,v=.slice a n c/\n<=c/\c<=9223372036854775807
theorem CV {a:Option Addr}{n c:Nat}{xs:List Value} (h:aW 1 (.slice a n c) xs w){i:Nat}{x:Value} (hi:xs[i]?=some x) :
  ∃ bk off,a=some ⟨bk,off,none⟩/\w.cell? ⟨bk,off+i,none⟩=some x:=by
 obtain ⟨a',n',c',he,hl,hx⟩:=h;cases he;obtain ⟨b,rfl,hc⟩:=hx i x hi;have hlt:i<xs.length:=(acZ.1 hi).1;obtain ⟨y,hy⟩:∃ y,xs[0]?=some y:=⟨xs[0]'oQ,aaJ _⟩;obtain ⟨b',hb',hc0⟩:=hx 0 y hy;cases hb';obtain ⟨bk,off,spot⟩:=b;have hs:spot=none:=by simpa [Addr.add] using World.cell?_spot hc0
 subst hs;refine ⟨bk,off,rfl,?_⟩;unfold Addr.add at hc;split at hc
 ·rename_i h0;subst h0;exact hc
 ·exact hc
theorem cut_c (a:Option Addr) (n c k:Nat) (h1:n<=c) (h2:c<=9223372036854775807) (w:World) :
  Calls prog 35 #[.slice a n c,.int .i64 k] w (aN λv w'=>v=.slice a (min n k) c/\w=w'):=by
 by_cases hk:k<n
 ·have hk1:(k:Int)<(n:Int):=by omega
  have hk2:(k:Int)<=(c:Int):=by omega
  have e:=uQ (show min n k=k by omega);go_enter func35,ntmps35;go_wp2;go_ret;exact ⟨.slice a k c,rfl,by rw [e.o],rfl⟩
 ·have hk1:¬ (k:Int)<(n:Int):=by omega
  have e:=uQ (show min n k=n by omega);go_enter func35,ntmps35;go_wp2;go_ret;exact ⟨.slice a n c,rfl,by rw [e.o],rfl⟩
theorem amr (la:Bs) (ha:Ro w0 F (aW 1 av (aB la))) (hb:Ro w0 F (aW 1 bv (aB la))) (h:Sat w0 w F) (hlen:la.length<=9223372036854775807) :
  Calls prog 54 #[av,bv] w (aN λv w'=>v=.bool true/\Sat w0 w' F):=by
 obtain ⟨aa,an,ac,rfl,hal,_⟩:=id (ha w h);obtain ⟨ba,bn,bc,rfl,hbl,_⟩:=id (hb w h);rw [aP,aeo]at hal hbl;subst hal;obtain rfl:=hbl.symm;have Ha:=uQ ha;have Hb:=uQ hb;clear ha hb;go_enter func54,ntmps54;go_wp2
 go_loopg [5] la.length (λg iq wr=>∃ i:Nat,g=la.length-i/\i<=la.length/\iq=.int .i64 i/\Sat w0 wr F)
 case atStart=>exact ⟨0,rfl,ad4 _,rfl,h⟩
 case round=>
  obtain ⟨i,rfl,hiN,rfl,hS⟩:=hrel;by_cases hi:i<la.length
  ·have hx:(aB la)[i]?=some (.int .u8 (la[i]'hi).toNat):=by unfold aB;simp [hi]
   obtain ⟨bk,off,rfl,c1⟩:=CV (Ha.o _ hS) hx;obtain ⟨bk2,off2,rfl,c2⟩:=CV (Hb.o _ hS) hx;generalize ((la[i]'hi).toNat:Int)=X at c1 c2;clear hx;have hic:(i:Int)<(la.length:Int):=by omega
   have hS1:=hS.drew;go_wp2;refine eF [8] (λw'=>w'.cell? ⟨bk,off+i,none⟩=some (.int .u8 X)/\w'.cell? ⟨bk2,off2+i,none⟩=some (.int .u8 X)) au ?_;have hG:_/\_:=And.intro c1 c2;refine yA0 0 ?_;refine yA0 1 ?_;refine yA0 2 ?_;refine yB0 3 ?_;refine yA0 4 ?_;refine yA0 5 ?_;refine yA0 6 ?_;refine yB0 7 ?_;refine yA0 8 ?_;refine dX au ?_;clear hG;simp only [jI]
   go_frame
   go_wp2
   go_roundg (la.length-(i+1))
   case measure=>omega
   case rel=>exact ⟨i+1,rfl,by omega,by go_num,hS1⟩
  ·obtain rfl:i=la.length:=by omega
   have hic:¬ (la.length:Int)<(la.length:Int):=by omega
   go_wp2;go_ret;exact ⟨.bool true,rfl,rfl,hS⟩
def within (x lo hi:Int):Int:=if x<lo then lo else if hi<x then hi else x
theorem Nc (x lo hi:Int) (w:World):Calls prog 6 #[.int .i64 x,.int .i64 lo,.int .i64 hi] w (aN λv w'=>v=.int .i64 (within x lo hi)/\w=w'):=by
 by_cases h1:x<lo
 ·have e:=uQ (show within x lo hi=lo by simp [within,h1]);go_enter func6,ntmps6;go_wp2;go_ret;exact ⟨.int .i64 lo,rfl,by rw [e.o],rfl⟩
 ·by_cases h2:hi<x
  ·have e:=uQ (show within x lo hi=hi by simp [within,h1,h2]);go_enter func6,ntmps6;go_wp2;go_ret;exact ⟨.int .i64 hi,rfl,by rw [e.o],rfl⟩
  ·have e:=uQ (show within x lo hi=x by simp [within,h1,h2]);go_enter func6,ntmps6;go_wp2;go_ret;exact ⟨.int .i64 x,rfl,by rw [e.o],rfl⟩
theorem Pj (h:Sat w0 w F) (l:Bs) (hr:aW 1 bv (aB l) w) (hl:l.length<=1099511627776) :
  Calls prog 67 #[bv] w (aN λv w'=>Sat w0 w' (aY v l::F)/\∃ a n c,v=.slice a n c):=by
 obtain ⟨i,hi,hz0,hz1,hz2⟩:=uO;obtain ⟨a,n,c,rfl,hn,_⟩:=id hr;rw [aP,aeo]at hn;have h0:Sat w0 w (aC 5 1 (.slice none 0 0) []::F):=Sat.dO.2 h;have h63:([]:List Value).length+(aB l).length<=maxLen:=by rw [aP];unfold maxLen;simp;omega
 have hby:(([]:List Value).length+(aB l).length)*i.bytes<=140737488355328:=by rw [aP,hz2];simp;omega
 have Hn:=uQ hn;clear hn;go_enter func67,ntmps67;go_wp2_with (at_builtin;go_must (refine Ah (w0:=w0) ah _ _ _ ah _ i _ underlying59 hi hz0 hz1 ah oQ ah ah (vK _) h0 hr h63 hby ?_);intro v2 w2 hS2 hne);obtain ⟨a2,n2,c2,rfl,_⟩:=id hS2.rd;go_wp2;go_ret;exact ⟨_,rfl,hS2,_,_,_,rfl⟩
end Go.Proofs.Y
namespace Go.aj
abbrev Bs:=List UInt8
def half:List Nat:=[0,498536548,997073096,651767980,1994146192,1802195444,1303535960,1342533948,3988292384,4027552580,3604390888,3412177804,2607071920,2262029012,2685067896,3183342108]
def tq (x:Nat):Nat:=(x/16) ^^^ half.getD (x%16) 0
def mP (x:Nat) (c:UInt8):Nat:=tq (tq (x ^^^ c.toNat))
def F7 (s:Nat) (b:Bs):Nat:=4294967295-b.foldl mP (4294967295-s)
def crc (b:Bs):Nat:=F7 0 b
theorem J5:∀ i,half.getD i 0<4294967296:=by
 intro i;rw [adV];cases h:half[i]? with
 |none=>simp
 |some x=>
  have:x∈half:=acr h;have h2:∀ y∈half,y<4294967296:=by decide
  exact h2 x this
theorem Ai {a b:Nat} (ha:a<4294967296) (hb:b<4294967296):a ^^^ b<4294967296:=Nat.xor_lt_two_pow (n:=32) ha hb
theorem Ym {x:Nat} (h:x<4294967296):tq x<4294967296:=Ai oQ (J5 _)
theorem agn {x:Nat} (h:x<4294967296) (c:UInt8):mP x c<4294967296:=Ym (Ym (Ai h (by have:=c.toNat_lt;omega)))
theorem PZ:∀ (b:Bs) (x:Nat),x<4294967296->b.foldl mP x<4294967296
 |[],_,h=>h
 |c::b,x,h=>PZ b _ (agn h c)
theorem D5 (b:Bs):crc b<4294967296:=by unfold crc F7;omega
def le (x:Nat):Nat->Bs
 |0=>[]
 |n+1=>UInt8.ofNat (x%256)::le (x/256) n
def num:Bs->Nat
 |[]=>0
 |c::b=>c.toNat+256*num b
theorem iE (x n:Nat):(le x n).length=n:=by
 induction n generalizing x with
 |zero=>rfl
 |succ n ih=>simp [le,ih]
theorem CP (n:Nat):∀ x,x<256^n->num (le x n)=x:=by
 induction n with
 |zero=>intro x h;simp at h;subst h;rfl
 |succ n ih=>
  intro x h;show (UInt8.ofNat (x%256)).toNat+256*num (le (x/256) n)=x;rw [ih (x/256) (by rw [Nat.div_lt_iff_lt_mul oQ];rw [apt]at h;exact h),aoB];omega
theorem zL:∀ b:Bs,num b<256^b.length
 |[]=>by simp [num]
 |c::b=>by
  have h1:=zL b;have h2:=c.toNat_lt;show c.toNat+256*num b<256^(b.length+1);rw [apt];omega
structure aJ where
 tag:Int
 key:Bs
 data:Bs
def zero32:Bs:=List.replicate 32 0
def check (x:aJ):Int:=
 if x.tag=0 then (if 16384<x.data.length then 5 else 0)
 else if x.tag=2 then (if x.key≠zero32 then 4 else if 0<x.data.length then 4 else if 16384<x.data.length then 5 else 0)
 else if x.tag=1 then (if 0<x.data.length then 4 else if 16384<x.data.length then 5 else 0)
 else 4
def size (x:aJ):Nat:=if check x≠0 then 0 else if x.tag=2 then 9 else 41+x.data.length
def body (x:aJ):Bs:=le (size x) 4++[UInt8.ofNat x.tag.toNat]++(if x.tag=2 then [] else x.key)++x.data
def encode (x:aJ):Bs×Int:=if check x≠0 then ([],check x) else (le (crc (body x)) 4++body x,0)
def zeroE:aJ:=⟨0,zero32,[]⟩
def fits (tag:UInt8) (n:Nat):Bool:=
 if tag=0 then decide (41<=n/\n<=16425) else if tag=1 then decide (n=41) else if tag=2 then decide (n=9) else false
def read (b:Bs):aJ×Nat×Int:=
 if b.length<9 then (zeroE,0,3)
 else
  let n:=num ((b.drop 4).take 4)
  if fits (b.getD 8 0) n=false then (zeroE,0,4)
  else if b.length<n then (zeroE,0,3)
  else if crc ((b.take n).drop 4)≠num (b.take 4) then (zeroE,0,13)
  else if 41<=n then (⟨(b.getD 8 0).toNat,(b.drop 9).take 32,(b.take n).drop 41⟩,n,0)
  else (⟨(b.getD 8 0).toNat,zero32,[]⟩,n,0)
end Go.aj
namespace Go.Proofs.Y
open Go.ak
def Half (w:World):Prop:=∀ i,i<16->w.cell? ⟨0,i,none⟩=some (.int .u32 (aj.half.getD i 0:Nat))
theorem RU (s:Nat) (hs:s<4294967296):bits .xor .u32 IntKind.u32.max (s:Int)=((4294967295-s:Nat):Int):=by
 have h1:IntKind.u32.max=((4294967295:Nat):Int):=by decide
 rw [h1,u32_xor_nat _ _ oQ hs]
 congr 1
 have h2:(4294967295 ^^^ s)=(BitVec.allOnes 32 ^^^ BitVec.ofNat 32 s).toNat:=by
  rw [BitVec.toNat_xor,BitVec.toNat_allOnes,BitVec.toNat_ofNat,ao3 hs]
 rw [h2,BitVec.allOnes_xor,BitVec.toNat_not,BitVec.toNat_ofNat,ao3 hs]
theorem V9 (y:Nat) (hy:y<4294967296):bits .and .u32 (y:Int) 15=((y%16:Nat):Int):=by
 have:=u32_and_nat y 15 hy oQ;rw [nat_mask4]at this;exact this
theorem Nq (y h:Nat) (hy:y<4294967296) (hh:h<4294967296):bits .xor .u32 ((y:Int)/16) (h:Int)=((y/16 ^^^ h:Nat):Int):=by
 have:=u32_xor_nat (y/16) h oQ hh;rw [<-this]
 rfl
theorem agm (s:Nat) (hs:s<4294967296) (l:Bs) (hH:Ro w0 F Half) (hr:Ro w0 F (aW 1 bv (aB l))) (h:Sat w0 w F) (hl:l.length<=1099511627776) :
  Calls prog 228 #[.int .u32 s,bv] w (aN λv w'=>v=.int .u32 (aj.F7 s l:Nat)/\w=w'):=by
 obtain ⟨a,n,c,rfl,hn,_⟩:=id (hr w h);rw [aP,aeo]at hn;subst hn;have hnot:=RU s hs;obtain ⟨t0,ht0⟩:∃ t0,t0=4294967295-s:=⟨_,rfl⟩;rw [<-ht0]at hnot;have ht:t0<4294967296:=by omega
 have Hr:=uQ hr;have hHw:=uQ (hH w h);have Hl:=uQ hl;have Ht:=uQ ht;have Ht0:=uQ ht0;clear hr hH hl hs ht ht0;go_enter func228,ntmps228;go_wp2_with fail;clear hnot
 go_loopg [5,12] l.length (λg xv iq wr=>∃ (i:Nat),g=l.length-i/\i<=l.length/\iq=.int .i64 i/\xv=.int .u32 ((l.take i).foldl aj.mP t0:Nat)/\wr=w)
 case atStart=>exact ⟨0,rfl,ad4 _,rfl,rfl,rfl⟩
 case round=>
  obtain ⟨i,rfl,hi,rfl,rfl,rfl⟩:=hrel;have uN:(l.take i).foldl aj.mP t0<4294967296:=aj.PZ _ _ Ht.o;by_cases hi':i<l.length
  ·have hb:(aB l)[i]?=some (.int .u8 (l[i]'hi').toNat):=by unfold aB;simp [hi']
   obtain ⟨bk,off,rfl,c1⟩:=CV (Hr.o _ h) hb;have hnext:(l.take (i+1)).foldl aj.mP t0=aj.tq (aj.tq ((l.take i).foldl aj.mP t0 ^^^ (l[i]'hi').toNat)):=by
    rw [afB hi',apd];rfl
   have hic:(i:Int)<(l.length:Int):=by omega
   have hwi:IntKind.i64.wrap ((i:Int)+1)=(i:Int)+1:=acO _ (by have h1:=Hl.o;omega);have hcb:=(l[i]'hi').toNat_lt;have sJ:=uQ hnext;clear hb hnext;generalize (l[i]'hi').toNat=cb at *
   generalize (l.take i).foldl aj.mP t0=x at *
   have e1:=u32_xor_nat x cb uN oQ;have hy1:x ^^^ cb<4294967296:=aj.Ai uN oQ;unfold aj.tq at sJ;generalize x ^^^ cb=y1 at *
   have e2:=V9 y1 hy1;have hz1:y1%16<16:=anD _ oQ;have g1:=hHw.o (y1%16) hz1;have e3:=Nq y1 _ hy1 (aj.J5 (y1%16));have hy2:y1/16 ^^^ aj.half.getD (y1%16) 0<4294967296:=aj.Ai oQ (aj.J5 _);generalize aj.half.getD (y1%16) 0=h1 at *
   generalize y1%16=z1 at *
   generalize y1/16 ^^^ h1=y2 at *
   have e4:=V9 y2 hy2;have hz2:y2%16<16:=anD _ oQ;have g2:=hHw.o (y2%16) hz2;have e5:=Nq y2 _ hy2 (aj.J5 (y2%16));generalize aj.half.getD (y2%16) 0=h2 at *
   generalize y2%16=z2 at *
   generalize y2/16 ^^^ h2=y3 at *
   have hcm:(cb:Int)%4294967296=(cb:Int):=by omega
   have aoZ:(z1:Int)<16:=by omega
   have ao0:(z2:Int)<16:=by omega
   clear uN hy1 hy2 hcb;go_wp2
   go_roundg (l.length-(i+1))
   case measure=>omega
   case rel=>exact ⟨i+1,rfl,ad8 hi',by first|rfl|go_num,by rw [sJ.o],rfl⟩
  ·obtain rfl:i=l.length:=by omega
   have hic:¬ (l.length:Int)<(l.length:Int):=by omega
   rw [aeH]at *
   have hn2:=RU _ uN;have hfin:aj.F7 s l=4294967295-l.foldl aj.mP t0:=by unfold aj.F7;rw [Ht0.o]
   rw [<-hfin]at hn2;generalize l.foldl aj.mP t0=x at *
   clear hi hi' uN hfin;go_wp2;go_ret;exact ⟨_,rfl,rfl,rfl⟩
theorem Pm (l:Bs) (hH:Ro w0 F Half) (hr:Ro w0 F (aW 1 bv (aB l))) (h:Sat w0 w F) (hl:l.length<=1099511627776) :
  Calls prog 186 #[bv] w (aN λv w'=>v=.int .u32 (aj.crc l:Nat)/\w=w'):=by
 have ha:=agm 0 oQ l hH hr h hl;have hcast:((0:Nat):Int)=0:=rfl;rw [hcast]at ha;clear hcast;obtain ⟨a,n,c,rfl,hn,_⟩:=id (hr w h);go_enter func186,ntmps186;go_wp2_with fail;refine ha.mono ?_;rintro e w1 ⟨v,rfl,rfl,rfl⟩;clear ha;go_wp2;go_ret;exact ⟨_,rfl,rfl,rfl⟩
theorem ZX (hM:M.Ok K) (hK:K<=1099511627776) (hl:bs.length=M.files.length) (x:gU) (h:Sat w0 w (xP m M bs fb nb wv++F)) :
  Calls prog 83 #[ptr m,.agg #[.string x.fr,.string x.to,pU bs x]] w (aN λ_ w'=>Sat w0 w' (aI m (M.link x)::F)):=by
 refine (ZW x (h.sel 5 [0,1,4,2,3] rfl rfl) (adT hM.budget hK)).mono ?_;rintro e w1 ⟨v,rfl,wv',hS⟩;refine ⟨v,rfl,aI.shut (bs:=bs) (fb:=fb) (nb:=nb) (wv:=wv') (by simpa [ak.link] using hl) ?_⟩;exact hS.sel 5 [0,1,3,4,2] rfl rfl
theorem yI (hM:M.Ok K) (hK:K<=1099511627776) (h:Sat w0 w (aI m M::F)) (s:ByteArray) :
  Calls prog 157 #[ptr m,.string s] w (aN λv w'=>v=errno (M.remove s).2/\Sat w0 w' (aI m (M.remove s).1::F)):=by
 obtain ⟨bs,fb,nb,wv,hl,hR⟩:=aI.open h;cases ho:M.off
 ·cases hn:bH M.now s with
  |none=>
   have hf:=BF (s:=s) hR ho hn;have bF:Hid (M.remove s=(M,9)):=by show _=_;simp [ak.remove,ho,hn]
   clear ho hn;go_enter func157,ntmps157;go_wp2_with (first|(go_at_call 76;refine hf.mono ?_;rintro e w1 ⟨v,rfl,rfl,rfl⟩));go_ret;exact ⟨errno 9,rfl,by rw [bF.o],by rw [bF.o];exact h⟩
  |some i=>
   have hf:=BH (s:=s) hR ho hn;have hst:=Dh hR hM.left;cases hstep:M.step.2
   ·rw [hstep]at hst;have bF:Hid (M.remove s=(M.step.1,12)):=by show _=_;simp [ak.remove,ho,hn,hstep]
    clear ho hn hstep;go_enter func157,ntmps157;go_wp2_with (first|(go_at_call 76;refine hf.mono ?_;rintro e w1 ⟨v,rfl,rfl,rfl⟩)|(go_at_call 82;refine hst.mono ?_;rintro e w1 ⟨v,rfl,rfl,hS1⟩));go_ret;refine ⟨errno 12,rfl,by rw [bF.o],?_⟩;rw [bF.o];exact aI.shut (bs:=bs) (fb:=fb) (nb:=nb) (wv:=wv) yY0 (vZ hS1)
   ·rw [hstep]at hst;have bF:Hid (M.remove s=(M.step.1.link ⟨s,ByteArray.empty,0⟩,0)):=by show _=_;simp [ak.remove,ho,hn,hstep]
    have hl':bs.length=M.step.1.files.length:=by rw [M.jf.2.2.2.1];exact hl
    have hlp:pU bs ⟨s,ByteArray.empty,0⟩=.pointer none:=by unfold pU;rw [adU rfl]
    have Az:=uQ hl';have Oh:=uQ hlp;clear ho hn hstep hl' hlp;generalize hq:bs.getD i 0=q at hf;have Hq:=uQ hq;clear hq;go_enter func157,ntmps157;go_wp2_with (first|(go_at_call 76;refine hf.mono ?_;rintro e w1 ⟨v,rfl,rfl,rfl⟩)|(go_at_call 82;fail));refine hst.mono ?_;rintro e w1 ⟨v,rfl,rfl,hS1⟩;have hlk:=ZX hM.step hK Az.o ⟨s,ByteArray.empty,0⟩ (vZ hS1);rw [Oh.o]at hlk;go_wp2_with (go_at_call 83;go_must (refine hlk.mono ?_);rintro e w2 ⟨v2,rfl,hS2⟩);go_ret;refine ⟨errno 0,rfl,by rw [bF.o],?_⟩;rw [bF.o];exact hS2
 ·have hf:=BG (s:=s) hR ho;have bF:Hid (M.remove s=(M,12)):=by show _=_;simp [ak.remove,ho]
  clear ho;go_enter func157,ntmps157;go_wp2_with (first|(go_at_call 76;refine hf.mono ?_;rintro e w1 ⟨v,rfl,rfl,rfl⟩));go_ret;exact ⟨errno 12,rfl,by rw [bF.o],by rw [bF.o];exact h⟩
section
variable {W:World}{P:ak}{cv nv ov:Value}
theorem afX {l:Bs} (h:Sat w0 w (aY v l::F)):nN v:=by
 rcases Sat.kL h with ⟨rfl,_⟩|⟨b,n',cap',cs,rfl,_,hn,_,hcm,_,_⟩
 ·exact ⟨_,0,0,rfl,ab1 _,by omega⟩
 ·exact ⟨_,_,_,rfl,hn,hcm⟩
theorem uG {a:Option Addr}{n c:Nat}{l:Bs} (h:Sat w0 w (aY (.slice a n c) l::F)){i:Nat} (hi:i<l.length) (x:UInt8) :
  ∃ g,a=some ⟨g,0,none⟩/\w.cell? ⟨g,i,none⟩=some (.int .u8 (l[i]'hi).toNat)/\w.frozen? ⟨g,i,none⟩=false/\Sat w0 (w.setCell ⟨g,i,none⟩ (.int .u8 x.toNat)) (aY (.slice a n c) (l.set i x)::F):=by
 rcases Sat.kL h with ⟨_,hx,_⟩|⟨g,n',cap',cs,he,h1,h2,h3,h4,h5,h6⟩
 ·have:(aB l).length=0:=by rw [hx];rfl
  rw [aP]at this;omega
 ·cases he;have hg:(aB l)[i]?=some (.int .u8 (l[i]'hi).toNat):=by unfold aB;simp [hi]
  refine ⟨g,rfl,h6.cellAt i _ (lX h5 hg),h6.oC i,?_⟩;have h7:=h6.set i (.int .u8 x.toNat);refine Sat.kU h7 ?_ h2 (by simpa using h3) h4 ?_
  ·rw [aP,ahu,<-aP l];exact h1
  ·rw [aoR,List.take_set,h5];unfold aB;rw [List.map_set]
theorem adK (x y:UInt8):bits .xor .u8 (x.toNat:Int) (y.toNat:Int)=((x ^^^ y).toNat:Int):=by
 rw [u8_xor_nat _ _ x.toNat_lt y.toNat_lt,UInt8.toNat_xor]
theorem akh {T sz:Nat}{g n c:Nat}{xs:List Value} (h:Sat w0 w (aC T sz (.slice (some ⟨g,0,none⟩) n c) xs::F)) (i:Nat) (x:Value) :
  w.frozen? ⟨g,i,none⟩=false/\(∀ y,xs[i]?=some y->w.cell? ⟨g,i,none⟩=some y)/\Sat w0 (w.setCell ⟨g,i,none⟩ x) (aC T sz (.slice (some ⟨g,0,none⟩) n c) (xs.set i x)::F):=by
 rcases Sat.kL h with ⟨he,_⟩|⟨g',n',cap',cs,he,h1,h2,h3,h4,h5,h6⟩
 ·cases he
 ·cases he;refine ⟨h6.oC i,λy hy=>h6.cellAt i _ (lX h5 hy),?_⟩;refine Sat.kU (h6.set i x) (by rw [ahu];exact h1) h2 (by simpa using h3) h4 ?_;rw [aoR,List.take_set,h5]
theorem Bj {l:Bs} (h:Sat w0 w (aY v l::F)):∃ a n c,v=.slice a n c/\n<=c/\c<=9223372036854775807/\n=l.length:=by
 rcases Sat.kL h with ⟨rfl,hx,_⟩|⟨b,n',cap',cs,rfl,hl,hn,hc,hcm,_,_⟩
 ·refine ⟨_,0,0,rfl,ab1 _,by omega,?_⟩;have:(aB l).length=0:=by rw [hx];rfl
  rw [aP]at this;exact this.symm
 ·refine ⟨_,_,_,rfl,hn,hcm,?_⟩;rw [aP,aeo]at hl;exact hl.symm
theorem amX {l:List ByteArray}{i:Nat}{x:ByteArray} (h:l[i]?=some x):(strs l)[i]?=some (.string x):=by
 unfold strs;rw [ad1,h];rfl
theorem amZ (l:List ByteArray):(strs l).length=l.length:=by unfold strs;simp
theorem Ro.more {p:World->Prop}{L:List aF} (h:Ro w0 F p):Ro w0 (L++F) p:=by
 induction L with
 |nil=>exact h
 |cons A L ih=>exact ih.cons
theorem UM (z:Int) (hi:Nat):∃ R:Nat,within z 0 hi=(R:Int)/\R<=hi:=by
 unfold within;split
 ·exact ⟨0,rfl,ad4 _⟩
 ·split
  ·exact ⟨hi,rfl,ab1 _⟩
  ·exact ⟨z.toNat,by omega,by omega⟩
end
theorem Ew (x:Nat) (hx:x<18446744073709551616) (h:Sat w0 w F) :
  Calls prog 204 #[.int .u64 x,.int .i64 4] w (aN λv w'=>Sat w0 w' (aY v (aj.le x 4)::F)/\∃ a,v=.slice a 4 4):=by
 have Hx:=uQ hx;clear hx;have hmk:∀ w,(Instr.makeSlice 59 (.int .i64 4) (.int .i64 4)).run prog w=.ok (.slice (some ⟨w.heap.size,0,none⟩) 4 4) (w.alloc (.cells #[.int .u8 0,.int .u8 0,.int .u8 0,.int .u8 0] 5)):=λw=>by kernel_rfl
 go_enter func204,ntmps204;go_wp2_with fail;have hA:=h.alloc (.cells #[.int .u8 0,.int .u8 0,.int .u8 0,.int .u8 0] 5);have hB:Sat w0 (w.alloc (.cells #[.int .u8 0,.int .u8 0,.int .u8 0,.int .u8 0] 5)) (aY (.slice (some ⟨w.heap.size,0,none⟩) 4 4) [0,0,0,0]::F):=Sat.kU hA rfl (ab1 _) (ab1 _) zG0 rfl;obtain ⟨b0,b1,b2,b3,hb0,hb1,hb2,hb3,hle⟩:∃ b0 b1 b2 b3:UInt8,(x:Int)%256=b0.toNat/\(x:Int)/256%256=b1.toNat/\(x:Int)/65536%256=b2.toNat/\(x:Int)/16777216%256=b3.toNat/\aj.le x 4=[b0,b1,b2,b3]:=by
  refine ⟨_,_,_,_,?_,?_,?_,?_,rfl⟩
  all_goals (rw [aoB];omega)
 have nX:=uQ hle;clear hle hmk hA;generalize w.heap.size=q at *
 go_loopg [17] 4 (λg iq wr=>∃ (i:Nat) (l':Bs),g=4-i/\i<=4/\iq=.int .i64 i/\l'=(match i with|0=>[0,0,0,0]|1=>[b0,0,0,0]|2=>[b0,b1,0,0]|3=>[b0,b1,b2,0]|_=>[b0,b1,b2,b3])/\Sat w0 wr (aY (.slice (some ⟨q,0,none⟩) 4 4) l'::F))
 case atStart=>exact ⟨0,_,rfl,by omega,rfl,rfl,hB⟩
 case round=>
  obtain ⟨i,l',rfl,hi,rfl,hl',hS⟩:=hrel;clear hB;obtain rfl|rfl|rfl|rfl|rfl:i=0\/i=1\/i=2\/i=3\/i=4:=by omega
  ·obtain rfl:l'=[0,0,0,0]:=hl';obtain ⟨g,he,e0,e1,hS5⟩:=uG (i:=0) hS yF0 b0;cases he;go_wp2_with fail
   go_roundg 3
   case measure=>omega
   case rel=>exact ⟨1,[b0,0,0,0],rfl,by omega,rfl,rfl,hS5⟩
  ·obtain rfl:l'=[b0,0,0,0]:=hl';obtain ⟨g,he,e0,e1,hS5⟩:=uG (i:=1) hS yF0 b1;cases he;go_wp2_with fail
   go_roundg 2
   case measure=>omega
   case rel=>exact ⟨2,[b0,b1,0,0],rfl,by omega,rfl,rfl,hS5⟩
  ·obtain rfl:l'=[b0,b1,0,0]:=hl';obtain ⟨g,he,e0,e1,hS5⟩:=uG (i:=2) hS yF0 b2;cases he;go_wp2_with fail
   go_roundg 1
   case measure=>omega
   case rel=>exact ⟨3,[b0,b1,b2,0],rfl,by omega,rfl,rfl,hS5⟩
  ·obtain rfl:l'=[b0,b1,b2,0]:=hl';obtain ⟨g,he,e0,e1,hS5⟩:=uG (i:=3) hS yF0 b3;cases he;go_wp2_with fail
   go_roundg 0
   case measure=>omega
   case rel=>exact ⟨4,[b0,b1,b2,b3],rfl,by omega,rfl,rfl,hS5⟩
  ·obtain rfl:l'=[b0,b1,b2,b3]:=hl';go_wp2;go_ret;exact ⟨_,rfl,by rw [nX.o];exact hS,_,rfl⟩
open Go Go.Sl Go.ak Go.ChangeShapes Go.WideShapes Go.RowKit
section
variable {H:Type}{enc:TypeId×Value->H}{W:World}{base:Nat}{spare:Nat->Bool}{held:Bool}
theorem Ye {α:Type} (k:Nat) (hk:0<k):∀ (xs:List (List α)) (_:∀ x∈xs,x.length=k) (i:Nat) (y:α),xs.flatten[i]?=some y->∃ x,xs[i/k]?=some x/\x[i%k]?=some y
 |[],_,_,_,h=>by simp at h
 |x::xs,hl,i,y,h=>by
  have hx:=hl x (.head _);rw [List.flatten_cons]at h;rcases aiN i k with hi|hi
  ·rw [aek oQ]at h;refine ⟨x,?_,?_⟩
   ·rw [Nat.div_eq_of_lt hi];rfl
   ·rw [ao3 hi];exact h
  ·rw [aew oQ,hx]at h;obtain ⟨z,h1,h2⟩:=Ye k hk xs (λq hq=>hl q (.tail _ hq)) (i-k) y h;have e1:i/k=(i-k)/k+1:=by
    conv=>lhs;rw [show i=(i-k)+k by omega]
    rw [Nat.add_div_right _ hk]
   have e2:i%k=(i-k)%k:=Nat.mod_eq_sub_mod hi;exact ⟨z,by rw [e1];exact h1,by rw [e2];exact h2⟩
theorem Yf {α:Type} (k:Nat):∀ (xs:List (List α)) (_:∀ x∈xs,x.length=k),xs.flatten.length=xs.length*k
 |[],_=>by simp
 |x::xs,hl=>by
  rw [List.flatten_cons,aa7,Yf k xs (λq hq=>hl q (.tail _ hq)),hl x (.head _),aev,Nat.succ_mul];omega
theorem Z5 {α:Type}{n:Nat}{p:Nat->α->Prop} (h:∀ i,i<n->∃ x,p i x):∃ l:List α,l.length=n/\∀ i x,l[i]?=some x->p i x:=by
 induction n with
 |zero=>exact ⟨[],rfl,λi x h=>by simp at h⟩
 |succ n ih=>
  obtain ⟨l,h1,h2⟩:=ih λi hi=>h i (Nat.lt_succ_of_lt hi);obtain ⟨x,hx⟩:=h n (Nat.lt_succ_self n);refine ⟨l++[x],by simp [h1],λi y hy=>?_⟩;rcases Nat.lt_trichotomy i n with hlt|rfl|hgt
  ·rw [aek oQ]at hy;exact h2 i y hy
  ·rw [aew oQ,h1,aph]at hy;cases hy;exact hx
  ·rw [aiT yT0]at hy;cases hy
theorem Sm {t e:TypeId}{k fuel:Nat}{v:Value}{x:DataW H×List MemPlace} (ht:P.underlying t=some (.slice e)) (hc:P.cellsOf e=k) (hk:0<k) (h:DataW.trod enc P W base spare held fuel t [v]=some x) :
  ∃ elems:List (List Value),aW k v elems.flatten W/\nN v/\∀ cs∈elems,cs.length=k/\∃ n y,DataW.trod enc P W base spare held n e cs=some y:=by
 rcases Go.Deep.open_slice ht h with ⟨hcs,_⟩|⟨a,len,cap,m,n,D,Pl,hcs,hb,hl,hm,hmm,_,hx⟩
 ·obtain rfl:v=.slice none 0 0:=by simpa using hcs
  exact ⟨[],SQ _ _ _,⟨_,_,_,rfl,ab1 _,by omega⟩,by simp⟩
 ·obtain rfl:v=.slice (some a) len cap:=by simpa using hcs
  have hlm:len<=m:=by rw [hmm];split <;> omega
  rw [hc]at hx;obtain ⟨l,l1,l2⟩:=Z5 (n:=len) λi hi=>hx i oQ;have hlen:∀ cs∈l,cs.length=k:=by
   intro cs hcs;obtain ⟨i,hi,rfl⟩:=aoI hcs;obtain ⟨h1,_⟩:=l2 i _ (aaJ hi);exact (World.cells?_some h1).2.1
  refine ⟨l,⟨some a,len,cap,rfl,by rw [Yf k l hlen,l1],λi y hy=>⟨a,rfl,?_⟩⟩,⟨_,_,_,rfl,hl,by unfold maxLen at hm;omega⟩,λcs hcs=>⟨hlen cs hcs,?_⟩⟩
  ·obtain ⟨cs,h1,h2⟩:=Ye k hk l hlen i y hy;obtain ⟨h3,_⟩:=l2 _ _ h1;have h4:=(World.cells?_some h3).2.2 (i%k) (anD _ hk);rw [Go.Deep.add_add,h2]at h4;rw [<-h4]
   congr 2
   rw [aiS];exact (Nat.div_add_mod i k).symm
  ·obtain ⟨i,hi,rfl⟩:=aoI hcs;obtain ⟨_,h2⟩:=l2 i _ (aaJ hi);exact ⟨n,_,h2⟩
theorem aa1 {t:TypeId}{fs:Array Field}{fuel:Nat}{cs:List Value}{x:DataW H×List MemPlace} (ht:P.underlying t=some (.struct fs)) (h:DataW.trod enc P W base spare held fuel t cs=some x) :
  cs.length=P.cellsOf t/\∀ (i:Nat) (f:Field),fs[i]?=some f->∃ n y,DataW.trod enc P W base spare held n f.type ((cs.drop f.offset).take (P.cellsOf f.type))=some y:=by
 obtain ⟨xs,n,_,_,hl,hxl,hf⟩:=DataW.trod_struct ht h;refine ⟨hl,λi f hi=>⟨n,?_⟩⟩;have hlt:i<xs.length:=by rw [hxl];exact (anR.1 hi).1
 exact ⟨xs[i],by rw [hf i f hi];exact aaJ hlt⟩
theorem KI {α β:Type}{f:α->β}{p:α->Prop}:∀ (l:List β) (_:∀ y∈l,∃ x,f x=y/\p x),∃ xs:List α,xs.map f=l/\∀ x∈xs,p x
 |[],_=>⟨[],rfl,by simp⟩
 |y::l,h=>by
  obtain ⟨x,h1,h2⟩:=h y (.head _);obtain ⟨xs,h3,h4⟩:=KI l λz hz=>h z (.tail _ hz);refine ⟨x::xs,by simp [h1,h3],λz hz=>?_⟩;rcases ad9.1 hz with rfl|hz
  ·exact h2
  ·exact h4 z hz
def IC (zs:List Int):Bs:=zs.map λz=>UInt8.ofNat z.toNat
theorem WV {zs:List Int} (h:∀ z∈zs,(Lit.int .u8 z).wf=true):aB (IC zs)=zs.map (.int .u8):=by
 unfold aB IC;rw [ahU];apply aj6;intro z hz;have hb:=bounds_u8 (h z hz);simp only [Function.comp,Value.int.injEq,true_and];rw [aoB];omega
theorem aiw {t e:TypeId}{k:IntKind}{fuel:Nat}{v:Value}{x:DataW H×List MemPlace} (ht:P.underlying t=some (.slice e)) (he:P.underlying e=some (.int k)) (hc:P.cellsOf e=1) (h:DataW.trod enc P W base spare held fuel t [v]=some x) :
  ∃ l:List Int,aW 1 v (l.map (.int k)) W/\nN v/\∀ z∈l,(Lit.int k z).wf=true:=by
 obtain ⟨elems,h1,h2,h3⟩:=Sm ht hc oQ h;obtain ⟨l,h4,h5⟩:=KI (f:=λz:Int=>[Value.int k z]) (p:=λz=>(Lit.int k z).wf=true) elems λcs hcs=>by
  obtain ⟨_,n,y,h6⟩:=h3 cs hcs;obtain ⟨z,hz,_,hw⟩:=DataW.trod_int he h6;exact ⟨z,hz.symm,hw⟩
 refine ⟨l,?_,h2,h5⟩;rw [<-h4]at h1;have:(l.map λz:Int=>[Value.int k z]).flatten=l.map (.int k):=by
  clear h1 h4 h5
  induction l with
  |nil=>rfl
  |cons z l ih=>simp only [aes,List.flatten_cons,ih];rfl
 rw [this]at h1;exact h1
theorem ZB {t e:TypeId}{fuel:Nat}{v:Value}{x:DataW H×List MemPlace} (ht:P.underlying t=some (.slice e)) (he:P.underlying e=some (.int .u8)) (hc:P.cellsOf e=1) (h:DataW.trod enc P W base spare held fuel t [v]=some x) :
  ∃ l:Bs,aW 1 v (aB l) W/\nN v:=by
 obtain ⟨l,h1,h2,h3⟩:=aiw ht he hc h;exact ⟨IC l,by rw [WV h3];exact h1,h2⟩
theorem af0 {w:World}{a:Addr}{v:Value} (h:Sat W w [Sl.old W]) (hc:W.cell? a=some v):w.cell? a=some v:=by
 have hlt:a.block<W.heap.size:=by
  rcases aiN a.block W.heap.size with h1|h1
  ·exact h1
  ·unfold World.cell? at hc;rw [apr h1]at hc;simp at hc
 unfold World.cell? at hc ⊢;rw [h.old hlt];exact hc
theorem LC {v:Value}{k:Nat}{xs:List Value} (h:aW k v xs W):Ro W [Sl.old W] (aW k v xs):=by
 intro w hw;obtain ⟨a,n,c,he,hl,hx⟩:=h;refine ⟨a,n,c,he,hl,λi x hi=>?_⟩;obtain ⟨b,hb,hc⟩:=hx i x hi;exact ⟨b,hb,af0 hw hc⟩
theorem own:ownKnob prog.godebug=none:=by kernel_rfl
theorem laidOut:laidOutB prog=true:=by kernel_rfl
end
open Go.ak
theorem aci {e:TypeId}{k:IntKind} (he:P.underlying e=some (.int k)) (xs:Array Value) (i:Nat) (v:Value) (hv:xs[i]?=some v) (w:World):(part e xs i).run P w=.ok v w:=by
 unfold part isAgg;simp [aed,agu he,hv]
theorem TP (d:Nat){e:TypeId}{k:IntKind} (he:P.underlying e=some (.int k)) (ks ls:List Int):∀ (is:List Nat),(∀ i∈is,i<ks.length/\i<ls.length)->∀ w,
  (Op.eqItems (d+1) e 1 (ks.map (.int k)).toArray (ls.map (.int k)).toArray is).run P w=.ok (is.all λi=>ks.getD i 0==ls.getD i 0) w
 |[],_,w=>by simp [Op.eqItems]
 |i::is,h,w=>by
  obtain ⟨h1,h2⟩:=h i (.head _);have a1:((ks.map (Value.int k)).toArray)[i*1]?=some (.int k (ks.getD i 0)):=by
   rw [aeo,aeh,ad1,aaJ h1,adV,aaJ h1];rfl
  have a2:((ls.map (Value.int k)).toArray)[i*1]?=some (.int k (ls.getD i 0)):=by
   rw [aeo,aeh,ad1,aaJ h2,adV,aaJ h2];rfl
  unfold Op.eqItems;simp only [aed,aci he _ _ _ a1,aci he _ _ _ a2,adW,run_equalIn_int w d e k k _ _ he];have ih:=TP d he ks ls is (λj hj=>h j (.tail _ hj)) w;cases hb:(ks.getD i 0==ls.getD i 0)
  ·simp only [List.all_cons,hb,Bool.not_false,apc,aep,Bool.false_and]
  ·simp only [List.all_cons,hb,Bool.not_true,aip,ao7,ih,Bool.true_and]
theorem all_eq (ks ls:List Int) (h:ks.length=ls.length):((List.range ks.length).all λi=>ks.getD i 0==ls.getD i 0)=decide (ks=ls):=by
 rw [aoT,agt,ad5];constructor
 ·intro hh;apply List.ext_getElem h;intro i h1 h2;have:=hh i (List.mem_range.2 h1);rw [ako,adV,adV,aaJ h1,aaJ h2]at this;exact this
 ·rintro rfl i _;simp
theorem al5 {t e:TypeId}{n:Nat}{k:IntKind}{i:TypeInfo} (hu:P.underlying t=some (.array n e)) (he:P.underlying e=some (.int k)) (hi:P.info? e=some i) (hc:P.cellsOf e=1) (ks ls:List Int) (h1:ks.length=n) (h2:ls.length=n) (w:World) :
  (binOp .neq t (.agg (ks.map (.int k)).toArray) (.agg (ls.map (.int k)).toArray)).run P w=.ok (.bool (!decide (ks=ls))) w:=by
 have h:=run_equalIn_array (P:=P) w 9999 (ks.map (.int k)).toArray (ls.map (.int k)).toArray hu hi;rw [hc,TP 9998 he ks ls (List.range n) (λi hi=>by have:=List.mem_range.1 hi;omega)]at h;rw [run_neq_struct,h,<-h1,all_eq ks ls oQ]
 rfl
theorem alY {t e:TypeId}{n:Nat}{k:IntKind}{i:TypeInfo} (hu:P.underlying t=some (.array n e)) (he:P.underlying e=some (.int k)) (hi:P.info? e=some i) (hc:P.cellsOf e=1) (ks ls:List Int) (h1:ks.length=n) (h2:ls.length=n) (w:World) :
  (Op.equalIn 10000 t (.agg (ks.map (.int k)).toArray) (.agg (ls.map (.int k)).toArray)).run P w=.ok (decide (ks=ls)) w:=by
 have h:=run_equalIn_array (P:=P) w 9999 (ks.map (.int k)).toArray (ls.map (.int k)).toArray hu hi;rw [hc,TP 9998 he ks ls (List.range n) (λi hi=>by have:=List.mem_range.1 hi;omega)]at h;rw [h,<-h1,all_eq ks ls oQ]
theorem al2 (w:World) (g off:Nat) (t ty:TypeId) (cs ks:Array Value) (fr:Nat×Nat) (d:TypeDesc) (hg:w.heap[g]?=some (.cells cs t fr)) (hk:∀ j v,ks[j]?=some v->cs[off+j]?=some v)
  (hu:P.underlying ty=some d) (hd:(match d with | .struct _ | .array _ _=>true|_=>false)=true) (hi:(P.info? ty).map (·.size)=some ks.size) :
  (loadVar ty ⟨g,off,none⟩).run P w=.ok (.agg ks) w:=by
 have hl:(loadCells ⟨g,off,none⟩ ks.toList.length).run P w=.ok ks.toList.toArray w:=
  run_loadCells_list (P:=P) w ⟨g,off,none⟩ ks.toList (λj v hv=>by
   have hadd:(⟨g,off,none⟩:Addr).add j=⟨g,off+j,none⟩:=by unfold Addr.add;split <;> simp_all
   rw [hadd,cell_of_row w g _ cs t fr hg];exact hk j v (by simpa using hv))
 cases hq:P.info? ty with
 |none=>simp [hq]at hi
 |some i=>
  have hs:i.size=ks.size:=by simpa [hq] using hi
  have hagg:(isAgg ty).run P w=.ok true w:=by
   unfold isAgg;rw [aed,agu hu w];cases d <;> simp_all
  simp only [ad6,Array.toArray_toList]at hl;simp [loadVar,aed,hagg,sizeOf,typeInfo,hq,hs,hl]
theorem UU {ops:Array Oper}{rest:List Oper}{o:Oper}{a:Act}{w:World}{Q:Exit->Act->World->Prop} (hgd:o.guard=none) (ty:TypeId) (x:Operand) (ho:o.op=.load ty x)
  (g off:Nat) (hx:a.eval x=.pointer (some ⟨g,off,none⟩)) (t:TypeId) (cs ks:Array Value) (fr:Nat×Nat) (d:TypeDesc) (hg:w.heap[g]?=some (.cells cs t fr)) (hk:∀ j v,ks[j]?=some v->cs[off+j]?=some v)
  (hu:P.underlying ty=some d) (hd:(match d with | .struct _ | .array _ _=>true|_=>false)=true) (hi:(P.info? ty).map (·.size)=some ks.size)
  (h:wpList P ops Q rest (a.put o.dst (.agg ks)) w):wpList P ops Q (o::rest) a w:=
 ae5 hgd λ_ hK=>by
  unfold Oper.wp execOp;simp only [ho,hx,Instr.loadAt,Instr.sureAddr,aed,aep,adW,al2 w g off t ty cs ks fr d hg hk hu hd hi];exact hK _ _ h
def jd (x:aj.aJ) (dv:Value):List Value:= .int .i64 x.tag::(aB x.key++[dv])
def bV (x:aj.aJ) (dv:Value):Array Value:=(jd x dv).toArray
theorem dJ (x:aj.aJ) (dv:Value) (hk:x.key.length=32):(bV x dv).size=34:=by unfold bV jd;simp [aB,hk]
theorem zu (x:aj.aJ) (dv:Value):(bV x dv)[0]?=some (.int .i64 x.tag):=rfl
theorem D9 (x:aj.aJ) (dv:Value) (hk:x.key.length=32):(bV x dv)[33]?=some dv:=by
 unfold bV jd;rw [aeh,aoL,aew (by rw [aP];omega),aP,hk];rfl
theorem PL (x:aj.aJ) (dv:Value) (hk:x.key.length=32):∀ j v,(aB x.key).toArray[j]?=some v->(bV x dv)[1+j]?=some v:=by
 intro j v h;rw [aeh]at h;have hj:j<(aB x.key).length:=(acZ.1 h).1;unfold bV jd;rw [aeh,apX,aoL,aek hj];exact h
theorem JD (k:Bs):aB k=(k.map λb=>(b.toNat:Int)).map (.int .u8):=by unfold aB;rw [ahU];rfl
theorem ZF {k l:Bs} (h:(k.map λb=>(b.toNat:Int))=l.map λb=>(b.toNat:Int)):k=l:=by
 induction k generalizing l with
 |nil=>cases l with
  |nil=>rfl
  |cons=>simp at h
 |cons a k ih=>cases l with
  |nil=>simp at h
  |cons b l=>
   simp only [aes,List.cons.injEq]at h;rw [ih h.2]
   congr 1
   exact UInt8.toNat_inj.1 oQ
theorem aaB (k l:Bs) (hk:k.length=32) (hl:l.length=32) (w:World):(binOp .neq 34 (.agg (aB k).toArray) (.agg (aB l).toArray)).run prog w=.ok (.bool (!decide (k=l))) w:=by
 obtain ⟨i,hi,_⟩:=uO;have:=al5 (P:=prog) underlying34 underlying5 hi au (k.map λb=>(b.toNat:Int)) (l.map λb=>(b.toNat:Int)) (by simpa using hk) (by simpa using hl) w;rw [JD,JD,this]
 congr 3
 rw [aoT,ad5,ad5];exact ⟨λh=>ZF h,λh=>by rw [h]⟩
theorem XY (k l:Bs) (hk:k.length=32) (hl:l.length=32) (w:World):(Op.equalIn 10000 34 (.agg (aB k).toArray) (.agg (aB l).toArray)).run prog w=.ok (decide (k=l)) w:=by
 obtain ⟨i,hi,_⟩:=uO;have:=alY (P:=prog) underlying34 underlying5 hi au (k.map λb=>(b.toNat:Int)) (l.map λb=>(b.toNat:Int)) (by simpa using hk) (by simpa using hl) w;rw [JD,JD,this]
 congr 2
 rw [eq_iff_iff];exact ⟨λh=>ZF h,λh=>by rw [h]⟩
theorem aow:(aB aj.zero32).toArray=#[.int .u8 0,.int .u8 0,.int .u8 0,.int .u8 0,.int .u8 0,.int .u8 0,.int .u8 0,.int .u8 0,.int .u8 0,.int .u8 0,.int .u8 0,.int .u8 0,.int .u8 0,.int .u8 0,.int .u8 0,.int .u8 0,.int .u8 0,.int .u8 0,.int .u8 0,.int .u8 0,.int .u8 0,.int .u8 0,.int .u8 0,.int .u8 0,.int .u8 0,.int .u8 0,.int .u8 0,.int .u8 0,.int .u8 0,.int .u8 0,.int .u8 0,.int .u8 0]:=rfl
theorem Gh (k:Bs) (hk:k.length=32) (w:World):(Op.equalIn 10000 34 (.agg (aB k).toArray) (.agg #[.int .u8 0,.int .u8 0,.int .u8 0,.int .u8 0,.int .u8 0,.int .u8 0,.int .u8 0,.int .u8 0,.int .u8 0,.int .u8 0,.int .u8 0,.int .u8 0,.int .u8 0,.int .u8 0,.int .u8 0,.int .u8 0,.int .u8 0,.int .u8 0,.int .u8 0,.int .u8 0,.int .u8 0,.int .u8 0,.int .u8 0,.int .u8 0,.int .u8 0,.int .u8 0,.int .u8 0,.int .u8 0,.int .u8 0,.int .u8 0,.int .u8 0,.int .u8 0])).run prog w=.ok (decide (k=aj.zero32)) w:=by
 rw [<-aow];exact XY k _ hk rfl w
theorem WY (x:aj.aJ) (hk:x.key.length=32) (a:Option Addr) (c:Nat) (h:Sat w0 w F) :
  Calls prog 202 #[.agg (bV x (.slice a x.data.length c))] w (aN λv w'=>v=errno (aj.check x)/\Sat w0 w' F):=by
 have hA:=h.alloc (.cells (bV x (.slice a x.data.length c)) 71);have c0:=hA.cellAt 0 _ (zu x _);have Bq:=hA.cellAt 33 _ (D9 x _ hk);have hat:=hA.at;have hnk:=Gh x.key hk;have hkk:=PL x (.slice a x.data.length c) hk;have FB:=uQ hkk;have oO:=uQ hat;have hks:(aB x.key).toArray.size=32:=by simp [aB,hk]
 have kX:=uQ hks;have HA:=uQ hA.drop;clear hkk hat hks hA;generalize hL:x.data.length=L at *
 have HL:=uQ hL;clear hL;by_cases t2:x.tag=2
 ·rw [t2]at c0;by_cases hz:x.key=aj.zero32
  ·have hzd:decide (x.key=aj.zero32)=true:=aem hz;have Hz:=uQ hz;clear hz;by_cases h0:0<L
   ·have Hf:=uQ (show aj.check x=4 by unfold aj.check;simp [t2,Hz.o,HL.o,h0]);have h0i:(0:Int)<(L:Int):=by omega
    go_enter func202,ntmps202;go_wp2_with (refine UU (P:=prog) ah 34 _ ah _ 1 ah _ _ (aB x.key).toArray (0,0) _ oO.o FB.o underlying34 ah yJ0 ?_);go_ret;exact ⟨errno 4,rfl,by rw [Hf.o],HA.o⟩
   ·obtain rfl:L=0:=by omega
    have Hf:=uQ (show aj.check x=0 by unfold aj.check;simp [t2,Hz.o,HL.o]);go_enter func202,ntmps202;go_wp2_with (refine UU (P:=prog) ah 34 _ ah _ 1 ah _ _ (aB x.key).toArray (0,0) _ oO.o FB.o underlying34 ah yJ0 ?_);go_ret;exact ⟨errno 0,rfl,by rw [Hf.o],HA.o⟩
  ·have hzd:decide (x.key=aj.zero32)=false:=aea hz;have Hf:=uQ (show aj.check x=4 by unfold aj.check;simp [t2,hz]);clear hz;go_enter func202,ntmps202;go_wp2_with (refine UU (P:=prog) ah 34 _ ah _ 1 ah _ _ (aB x.key).toArray (0,0) _ oO.o FB.o underlying34 ah yJ0 ?_);go_ret;exact ⟨errno 4,rfl,by rw [Hf.o],HA.o⟩
 ·have t2b:(x.tag==2)=false:=by simpa using t2
  clear hnk;by_cases t0:x.tag=0
  ·rw [t0]at c0;by_cases hb:16384<L
   ·have Hf:=uQ (show aj.check x=5 by unfold aj.check;simp [t0,HL.o,hb]);have hbi:(16384:Int)<(L:Int):=by omega
    go_enter func202,ntmps202;go_wp2;go_ret;exact ⟨errno 5,rfl,by rw [Hf.o],HA.o⟩
   ·have Hf:=uQ (show aj.check x=0 by unfold aj.check;simp [t0,HL.o,hb]);have hbi:¬ (16384:Int)<(L:Int):=by omega
    go_enter func202,ntmps202;go_wp2;go_ret;exact ⟨errno 0,rfl,by rw [Hf.o],HA.o⟩
  ·have t0b:(x.tag==0)=false:=by simpa using t0
   by_cases t1:x.tag=1
   ·rw [t1]at c0;by_cases h0:0<L
    ·have Hf:=uQ (show aj.check x=4 by unfold aj.check;simp [t1,HL.o,h0]);have h0i:(0:Int)<(L:Int):=by omega
     go_enter func202,ntmps202;go_wp2;go_ret;exact ⟨errno 4,rfl,by rw [Hf.o],HA.o⟩
    ·obtain rfl:L=0:=by omega
     have Hf:=uQ (show aj.check x=0 by unfold aj.check;simp [t1,HL.o]);go_enter func202,ntmps202;go_wp2;go_ret;exact ⟨errno 0,rfl,by rw [Hf.o],HA.o⟩
   ·have t1b:(x.tag==1)=false:=by simpa using t1
    have Hf:=uQ (show aj.check x=4 by unfold aj.check;simp [t0,t1,t2]);clear t0 t1 t2;generalize x.tag=T at *
    go_enter func202,ntmps202;go_wp2;go_ret;exact ⟨errno 4,rfl,by rw [Hf.o],HA.o⟩
section
theorem aam (l c:Nat) (h1:l<=c) (h2:c<=1099511627776) (w:World) :
  (Instr.makeSlice 59 (.int .i64 l) (.int .i64 c)).run prog w=.ok (.slice (some ⟨w.heap.size,0,none⟩) l c) (w.alloc (.cells (madeCells #[.int .u8 0] c) 5)):=by
 obtain ⟨i,hi,hz0,hz1,hz2⟩:=uO;have:=run_make (P:=prog) w 59 5 i _ underlying59 hi hz0 .i64 .i64 (l:Int) (c:Int) oQ oQ (by rw [hz2];omega) oQ;simp only [apH,hz1,aeo]at this;exact this
theorem aak {l c:Nat} (h1:l<=c) (h2:c<=1099511627776) (h:Sat w0 w (pt q (.cells (madeCells #[.int .u8 0] c) 5 (0,0))::F)):Sat w0 w (aY (.slice (some ⟨q,0,none⟩) l c) (List.replicate l 0)::F):=by
 refine Sat.kU h (by rw [aP,afa,aeo]) h1 (by rw [size_madeCells,aeo];exact ab1 _) zG0 ?_;rw [toList_madeCells_one,aeo,List.take_replicate,apg h1];unfold aB;rw [List.map_replicate];rfl
section
variable {o:Oper}{sv:Value}
theorem adE (hgd:o.guard=none) (d s:Operand)
  (ho:o.op=.call { callee:= .builtin .copy,args:=#[d,s],argTypes:=#[59,59] }) (g n c:Nat) (hd:a.eval d=.slice (some ⟨g,0,none⟩) n c) (hs:a.eval s=sv)
  {l x:Bs} (h:Sat w0 w (aY (.slice (some ⟨g,0,none⟩) n c) l::F)) (hx:aW 1 sv (aB x) w) (h0:x≠[]) (hl:x.length<=l.length)
  (hK:∀ w',Sat w0 w' (aY (.slice (some ⟨g,0,none⟩) n c) (x++l.drop x.length)::F)->wpList prog ops Q rest (a.put o.dst (goInt x.length)) w'):wpList prog ops Q (o::rest) a w:=by
 obtain ⟨i,hi,hz0,hz1,hz2⟩:=uO;obtain ⟨sa,sn,sc,rfl,hsl,hcell⟩:=hx;rw [aP,aeo]at hsl;obtain ⟨ad,rfl⟩:∃ ad,sa=some ad:=by
  cases x with
  |nil=>exact absurd rfl h0
  |cons b x=>obtain ⟨ad,h1,_⟩:=hcell 0 _ rfl;exact ⟨ad,h1⟩
 rcases Sat.kL h with ⟨he,_⟩|⟨g',n',c',cs,he,e1,e2,e3,e4,e5,hp⟩
 ·cases he
 ·cases he;rw [aP,aeo]at e1;rw [aeo]at e3 e5;have hsz:(prog.info? 5).map (·.size)=some 1:=by rw [hi];simp [hz1]
  refine wpList_copy_own hgd d s _ _ ho 5 underlying59 hsz g 0 n c ad sn sc hd hs cs 5 hp.at (aB x) (by rw [aP];show _=min sn n;omega) (λj v hj=>by obtain ⟨b,hb,hc⟩:=hcell j v hj;cases hb;exact hc) (by rw [aP];omega) (vK _) ?_;rw [aP];refine hK _ ?_;have h1:=hp.turn (w':=w.setRow g (cs.toList.take 0++(aB x++cs.toList.drop (0+x.length))).toArray) rfl rfl rfl yF0 (setRow_heap w g cs _ _ _ hp.at) (λj hj _=>setRow_other w g j _ hj);refine Sat.kU h1 ?_ e2 ?_ e4 ?_
  ·rw [aP,aa7,adX,aeo];omega
  ·simp only [afC,aeV,abA,aa7,adX,aP,ad6];omega
  ·simp only [afC,aeV,aeE,aeo];unfold aB at e5 ⊢;rw [aef,List.map_drop,<-e5,List.take_append,abl,adZ yT0,List.drop_take]
end
theorem ahn (x:aj.aJ) (hk:x.key.length=32) (a:Option Addr) (c:Nat) (h:Sat w0 w F) (hL:x.data.length<=1099511627776) :
  Calls prog 203 #[.agg (bV x (.slice a x.data.length c))] w (aN λv w'=>v=.int .i64 (aj.size x:Nat)/\Sat w0 w' F):=by
 have hA:=h.alloc (.cells (bV x (.slice a x.data.length c)) 71);have hch:=WY x hk a c hA;have hat:=hA.at;have hsz:=dJ x (.slice a x.data.length c) hk;have oO:=uQ hat;have iQ:=uQ hsz;have Hk:=uQ hk;have HL:=uQ hL;clear hat hsz hk hA hL;go_enter func203,ntmps203;go_wp2_with (refine wpList_load_row (P:=prog) ah 71 _ ah _ ah _ _ (0,0) _ oO.o underlying71 ah (by rw [iQ.o];kernel_rfl) ?_);refine hch.mono ?_;rintro e w1 ⟨v,rfl,rfl,hS1⟩;have c0:=hS1.cellAt 0 _ (zu x _);have Bq:=hS1.cellAt 33 _ (D9 x _ Hk.o);clear hch;by_cases hc:aj.check x=0
 ·by_cases ht:x.tag=2
  ·have Hf:=uQ (show aj.size x=9 by unfold aj.size;simp [hc,ht]);rw [hc];rw [ht]at c0;go_wp2;go_ret;exact ⟨.int .i64 9,rfl,by rw [Hf.o];rfl,hS1.drop⟩
  ·have Hf:=uQ (show aj.size x=41+x.data.length by unfold aj.size;simp [hc,ht]);have htb:(x.tag==2)=false:=by simpa using ht
   have hwr:IntKind.i64.wrap (41+(x.data.length:Int))=41+(x.data.length:Int):=acO _ (by have:=HL.o;omega);rw [hc];clear ht;generalize x.tag=T at *
   go_wp2;go_ret;exact ⟨.int .i64 (41+(x.data.length:Int)),rfl,by rw [Hf.o];rfl,hS1.drop⟩
 ·have Hf:=uQ (show aj.size x=0 by unfold aj.size;simp [hc]);have hcb:(aj.check x==0)=false:=by simpa using hc
  clear hc;generalize aj.check x=E at *
  go_wp2;go_ret;exact ⟨.int .i64 0,rfl,by rw [Hf.o];rfl,hS1.drop⟩
end
section
section
variable {o:Oper}
theorem Dp (hgd:o.guard=none) (s y:Operand) (ho:o.op=.call { callee:= .builtin .append,args:=#[s,y],argTypes:=#[59,59] })
  (hv:a.eval s=v) (hxv:a.eval y=x) {l m:Bs} (h:Sat w0 w (aY v l::F)) (hx:aW 1 x (aB m) w) (hlen:l.length+m.length<=1099511627776) (hne:l++m≠[])
  (hK:∀ b n c w',Sat w0 w' (aY (.slice (some ⟨b,0,none⟩) n c) (l++m)::F)->n=(l++m).length->n<=c->c<=9223372036854775807->wpList prog ops Q rest (a.put o.dst (.slice (some ⟨b,0,none⟩) n c)) w'):wpList prog ops Q (o::rest) a w:=by
 obtain ⟨i,hi,hz0,hz1,hz2⟩:=uO;have h63:(aB l).length+(aB m).length<=maxLen:=by rw [aP,aP];unfold maxLen;omega
 have hby:((aB l).length+(aB m).length)*i.bytes<=140737488355328:=by rw [aP,aP,hz2];omega
 refine Ah (w0:=w0) hgd s y 59 ho _ i _ underlying59 hi hz0 hz1 ah oQ hv hxv (vK _) h hx h63 hby ?_;intro v' w' hS hn;obtain ⟨b,n,c,rfl⟩:=hn (by rw [<-Bo];intro e;apply hne;simpa [aB] using e);rw [<-Bo]at hS;obtain ⟨a',n',c',he,h1,h2,h3⟩:=Bj hS;cases he;exact hK b n c w' hS h3 h1 h2
end
theorem aj7 (t:Int) (h:t=0\/t=1\/t=2):IntKind.u8.wrap t=((UInt8.ofNat t.toNat).toNat:Int):=by
 rcases h with rfl|rfl|rfl <;> decide
theorem aiU (e:aj.aJ) (hk:e.key.length=32) (dv:Value) (h:Sat w0 w (pt q (.cells (bV e dv) 71 (0,0))::F)):aW 1 (.slice (some ⟨q,1,none⟩) 32 32) (aB e.key) w:=by
 refine ⟨_,32,32,rfl,by rw [aP,hk],λi y hi=>⟨_,rfl,?_⟩⟩;have e1:(⟨q,1,none⟩:Addr).add i=⟨q,1+i,none⟩:=by unfold Addr.add;split <;> simp_all
 rw [e1];exact h.cellAt _ _ (PL e dv hk i y (by simpa using hi))
theorem XP (e:aj.aJ) (hk:e.key.length=32) (da:Option Addr) (dc:Nat) (hd:Ro w0 F (aW 1 (.slice da e.data.length dc) (aB e.data))) (hH:Ro w0 F Half) (h:Sat w0 w F) (hL:e.data.length<=1099511627) :
  Calls prog 158 #[.agg (bV e (.slice da e.data.length dc))] w (aN λv w'=>∃ bv,v=.tuple #[bv,errno (aj.encode e).2]/\(∃ a n c,bv=.slice a n c)/\Sat w0 w' (aY bv (aj.encode e).1::F)):=by
 have hA:=h.alloc (.cells (bV e (.slice da e.data.length dc)) 71);have hch:=WY e hk da dc hA;have hat:=hA.at;have hsz:=dJ e (.slice da e.data.length dc) hk;have oO:=uQ hat;have iQ:=uQ hsz;have Hk:=uQ hk;have HL:=uQ hL;have Hd:=uQ hd;have HH:=uQ hH;clear hat hsz hk hA hL hd hH;go_enter func158,ntmps158;go_wp2_with (refine wpList_load_row (P:=prog) ah 71 _ ah _ ah _ _ (0,0) _ oO.o underlying71 ah (by rw [iQ.o];kernel_rfl) ?_);refine hch.mono ?_;rintro ee w1 ⟨v,rfl,rfl,hS1⟩;clear hch;generalize w.heap.size=q at *
 by_cases hc:aj.check e=0
 ·have YR:=uQ hS1.at;have hsc:=ahn e Hk.o da dc hS1 (by have:=HL.o;omega);have Hc:=uQ hc;have htag:e.tag=0\/e.tag=1\/e.tag=2:=by
   unfold aj.check at hc;by_cases t0:e.tag=0
   ·exact .inl t0
   by_cases t2:e.tag=2
   ·exact .inr (.inr t2)
   by_cases t1:e.tag=1
   ·exact .inr (.inl t1)
   simp [t0,t1,t2]at hc
  have aeR:=uQ htag;rw [hc];clear hc htag;go_wp2_with (refine wpList_load_row (P:=prog) ah 71 _ ah _ ah _ _ (0,0) _ YR.o underlying71 ah (by rw [iQ.o];kernel_rfl) ?_);refine hsc.mono ?_;rintro ee w2 ⟨v,rfl,rfl,hS2⟩;clear hsc YR oO;have Za:9<=aj.size e/\aj.size e<=41+e.data.length:=by
   unfold aj.size;rw [abL (by rw [Hc.o];simp)];split <;> omega
  have hN:=uQ Za;have hmk:=aam 4 (aj.size e) oQ (by have:=HL.o;omega);have hcast:((4:Nat):Int)=4:=rfl;rw [hcast]at hmk;have hA2:=(hS2.alloc (.cells (madeCells #[.int .u8 0] (aj.size e)) 5));have hB:=aak (l:=4) oQ (by have:=HL.o;omega) hA2;have hput:=Ew (aj.size e) (by have:=HL.o;omega) hB;have hwu:IntKind.u64.wrap (aj.size e:Int)=(aj.size e:Int):=by
   rw [show ∀ n:Int,IntKind.u64.wrap n=n%18446744073709551616 from λn=>by simp [IntKind.wrap,IntKind.bits,IntKind.signed]];have:=HL.o;omega
  clear hcast Za hA2;go_wp2_with fail;refine hput.mono ?_;rintro ee w3 ⟨v,rfl,hS3,pa,rfl⟩;clear hput hwu hB hmk;generalize w2.heap.size=q2 at *
  have c0:=(hS3.sel 3 [2] rfl rfl).cellAt 0 _ (zu e _);have hr1:aW 1 (.slice pa 4 4) (aB (aj.le (aj.size e) 4)) w3:=Sat.rd hS3;have hl4:=aj.iE (aj.size e) 4;obtain ⟨tb,htb⟩:∃ tb,tb=UInt8.ofNat e.tag.toNat:=⟨_,rfl⟩;have Zo:e.tag%256=(tb.toNat:Int):=by
   rw [htb,<-aj7 _ aeR.o];exact (IntKind.wrap_u8' _).symm
  have Oz:=uQ htb;clear htb;have hd3:=Hd.o;have zy:=uQ (show (List.replicate 4 (0:UInt8)++aj.le (aj.size e) 4).length=8 by rw [aa7,hl4,afa]);have Vz:=uQ hl4;clear hl4;by_cases ht2:e.tag=2
  ·have rE:=uQ ht2;rw [ht2]at c0;have Zn:tb=2:=by rw [Oz.o,ht2];rfl
   have aeS:=uQ Zn;clear Zo Zn
   go_wp2_with (first
    |(at_builtin;refine Dp (w0:=w0) (l:=List.replicate 4 0) (m:=aj.le (aj.size e) 4) ah _ _ ah ah ah (hS3.sel 3 [1,2] rfl rfl) hr1 (by rw [Vz.o,afa];omega) yF0 ?_;intro b4 n4 k4 w4 hS4 hx1 hx2 hx3;clear hx1 hx2 hx3 hr1 c0 hS3;have c0:=hS4.aT.cellAt 0 _ (zu e _);rw [rE.o]at c0;have hB4:=hS4.alloc (.cells #[.int .u8 2] 5);have hr4:aW 1 (.slice (some ⟨w4.heap.size,0,none⟩) 1 1) (aB [2]) (w4.alloc (.cells #[.int .u8 2] 5)):=Ez w4 #[.int .u8 2] 5 1 1 1 rfl)
    |(at_builtin;refine Dp (w0:=w0) (l:=List.replicate 4 0++aj.le (aj.size e) 4) (m:=[2]) ah _ _ ah ah ah hB4.aT hr4 (by rw [zy.o];simp) yF0 ?_;intro b5 n5 k5 w5 hS5 hx1 hx2 hx3;clear hx1 hx2 hx3 hr4 hB4 hS4 c0;have c0:=hS5.fE.cellAt 0 _ (zu e _);rw [rE.o]at c0;have Bq:=hS5.fE.cellAt 33 _ (D9 e _ Hk.o);have Cc:=Hd.o w5 (hS5.sel 3 [] rfl rfl))
    |(at_builtin;refine Dp (w0:=w0) (l:=List.replicate 4 0++aj.le (aj.size e) 4++[2]) (m:=e.data) ah _ _ ah ah ah hS5 Cc (by rw [aa7,zy.o];have:=HL.o;simp;omega) yF0 ?_;intro b7 n7 k7 w7 hS7 yc Cb hk7;have hn4:4<=n7:=(by rw [yc];simp only [aa7,afa];omega);have hk4:¬ k7=4:=(by rw [yc]at Cb;simp only [aa7,afa,aev]at Cb;omega);have ah0:(4:Int)<=(n7:Int):=oQ;have FI:=uQ yc;clear yc Cc hS5 Bq c0))
   have hbody:List.replicate 4 0++aj.le (aj.size e) 4++[2]++e.data=List.replicate 4 0++aj.body e:=by
    unfold aj.body;rw [adU rE.o,<-Oz.o,aeS.o];simp only [ad2,aeV]
   obtain ⟨XX,Qj,Nz,Gu⟩:∃ XX:List aF,(∀ w' A,Sat w0 w' (A::XX)->Sat w0 w' (A::F))/\Ro w0 (aY (.slice (some ⟨b7,0,none⟩) n7 k7) (List.replicate 4 0++aj.body e)::XX) Half/\Sat w0 w7 (aY (.slice (some ⟨b7,0,none⟩) n7 k7) (List.replicate 4 0++aj.le (aj.size e) 4++[2]++e.data)::XX):=
    ⟨_::_::F,λw' A hw=>hw.sel 3 [0] rfl rfl,Ro.more (L:=[_,_,_]) HH.o,hS7⟩
   clear hS7;have hS7:=Gu;clear Gu;rw [hbody]at hS7 FI;have hbl:(aj.body e).length<=1099511627776:=by
    have h1:=HL.o;have h2:=Hk.o;unfold aj.body;simp only [aa7,aj.iE,aev,ae0];split <;> simp <;> omega
   have Qy:n7=4+(aj.body e).length:=by rw [FI.o,aa7,afa]
   have hrb:∀ w',Sat w0 w' (aY (.slice (some ⟨b7,0,none⟩) n7 k7) (List.replicate 4 0++aj.body e)::XX)->aW 1 (.slice (some ⟨b7,4,none⟩) (n7-4) (k7-4)) (aB (aj.body e)) w':=by
    intro w' hw';have h1:=SS (lo:=4) (k:=n7-4) (Sat.rd hw') oQ (some ⟨b7,4,none⟩) (by rw [abL hk4];simp [sO]) Cb (k7-4);have h2:((aB (List.replicate 4 0++aj.body e)).drop 4).take (n7-4)=aB (aj.body e):=by
     rw [Bo,anT (by simp [aB])];have:(aB (List.replicate 4 0)).drop 4=[]:=by simp [aB]
     rw [this,aeV,adZ (by rw [aP];omega)]
    rw [h2]at h1;exact h1
   have BP:=Pm (F:=aY (.slice (some ⟨b7,0,none⟩) n7 k7) (List.replicate 4 0++aj.body e)::XX) (aj.body e) Nz hrb hS7 hbl;have uh:=uQ hbl;clear hrb hbl Qy;go_wp2_with fail;refine BP.mono ?_;rintro ee w8 ⟨v,rfl,rfl,rfl⟩;clear BP;have Ql:=aj.D5 (aj.body e);have GI:=Ew (aj.crc (aj.body e)) oQ hS7;have hwc:IntKind.u64.wrap (aj.crc (aj.body e):Int)=(aj.crc (aj.body e):Int):=by
    rw [show ∀ n:Int,IntKind.u64.wrap n=n%18446744073709551616 from λn=>by simp [IntKind.wrap,IntKind.bits,IntKind.signed]];omega
   have QG:(aj.crc (aj.body e):Int)%18446744073709551616=(aj.crc (aj.body e):Int):=by omega
   clear Ql;go_wp2_with fail;refine GI.mono ?_;rintro ee w9 ⟨v,rfl,iU,pb,rfl⟩;clear GI hwc QG;have QE:aW 1 (.slice pb 4 4) (aB (aj.le (aj.crc (aj.body e)) 4)) w9:=Sat.rd iU;go_wp2_with (refine adE (w0:=w0) (x:=aj.le (aj.crc (aj.body e)) 4) ah _ _ ah b7 n7 k7 ah ah iU.aT QE (by intro e0;have:=aj.iE (aj.crc (aj.body e)) 4;rw [e0]at this;cases this) (by rw [aj.iE,aa7,afa];omega) ?_;intro w10 dG)
   go_ret2
   have hfin:aj.encode e=(aj.le (aj.crc (aj.body e)) 4++aj.body e,0):=by unfold aj.encode;rw [abL (by rw [Hc.o];simp)]
   rw [hfin];refine ⟨_,rfl,_,rfl,⟨_,_,_,rfl⟩,?_⟩;have hdr:(List.replicate 4 (0:UInt8)++aj.body e).drop (aj.le (aj.crc (aj.body e)) 4).length=aj.body e:=by
    rw [aj.iE,anT yF0];simp
   rw [hdr]at dG;exact Qj _ _ (dG.sel 2 [0] rfl rfl)
  ·have ht2b:(e.tag==2)=false:=by simpa using ht2
   have rE:=uQ ht2;clear ht2
   go_wp2_with (first
    |(at_builtin;refine Dp (w0:=w0) (l:=List.replicate 4 0) (m:=aj.le (aj.size e) 4) ah _ _ ah ah ah (hS3.sel 3 [1,2] rfl rfl) hr1 (by rw [Vz.o,afa];omega) yF0 ?_;intro b4 n4 k4 w4 hS4 hx1 hx2 hx3;clear hx1 hx2 hx3 hr1 c0 hS3;have c0:=hS4.aT.cellAt 0 _ (zu e _);have hB4:=hS4.alloc (.cells #[.int .u8 tb.toNat] 5);have hr4:aW 1 (.slice (some ⟨w4.heap.size,0,none⟩) 1 1) (aB [tb]) (w4.alloc (.cells #[.int .u8 tb.toNat] 5)):=Ez w4 #[.int .u8 tb.toNat] 5 1 1 1 rfl)
    |(at_builtin;refine Dp (w0:=w0) (l:=List.replicate 4 0++aj.le (aj.size e) 4) (m:=[tb]) ah _ _ ah ah ah hB4.aT hr4 (by rw [zy.o];simp) yF0 ?_;intro b5 n5 k5 w5 hS5 hx1 hx2 hx3;clear hx1 hx2 hx3 hr4 hB4 hS4 c0;have c0:=hS5.fE.cellAt 0 _ (zu e _);have Bq:=hS5.fE.cellAt 33 _ (D9 e _ Hk.o);have Zi:=aiU e Hk.o _ hS5.fE)
    |(at_builtin;refine Dp (w0:=w0) (l:=List.replicate 4 0++aj.le (aj.size e) 4++[tb]) (m:=e.key) ah _ _ ah ah ah hS5 Zi (by rw [aa7,zy.o,Hk.o];simp) yF0 ?_;intro b6 n6 k6 w6 hS6 hx1 hx2 hx3;clear hx1 hx2 hx3 Zi hS5 c0 Bq;have Bq:=hS6.fE.cellAt 33 _ (D9 e _ Hk.o);have Cc:=Hd.o w6 (hS6.sel 3 [] rfl rfl))
    |(at_builtin;refine Dp (w0:=w0) (l:=List.replicate 4 0++aj.le (aj.size e) 4++[tb]++e.key) (m:=e.data) ah _ _ ah ah ah hS6 Cc (by rw [aa7,aa7,zy.o,Hk.o];have:=HL.o;simp;omega) yF0 ?_;intro b7 n7 k7 w7 hS7 yc Cb hk7;have hn4:4<=n7:=(by rw [yc];simp only [aa7,afa];omega);have hk4:¬ k7=4:=(by rw [yc]at Cb;simp only [aa7,afa,aev]at Cb;omega);have ah0:(4:Int)<=(n7:Int):=oQ;have FI:=uQ yc;clear yc Cc hS6 Bq))
   have hbody:List.replicate 4 0++aj.le (aj.size e) 4++[tb]++e.key++e.data=List.replicate 4 0++aj.body e:=by
    unfold aj.body;rw [abL rE.o,Oz.o];simp only [ad2]
   obtain ⟨XX,Qj,Nz,Gu⟩:∃ XX:List aF,(∀ w' A,Sat w0 w' (A::XX)->Sat w0 w' (A::F))/\Ro w0 (aY (.slice (some ⟨b7,0,none⟩) n7 k7) (List.replicate 4 0++aj.body e)::XX) Half/\Sat w0 w7 (aY (.slice (some ⟨b7,0,none⟩) n7 k7) (List.replicate 4 0++aj.le (aj.size e) 4++[tb]++e.key++e.data)::XX):=
    ⟨_::_::F,λw' A hw=>hw.sel 3 [0] rfl rfl,Ro.more (L:=[_,_,_]) HH.o,hS7⟩
   clear hS7;have hS7:=Gu;clear Gu;rw [hbody]at hS7 FI;have hbl:(aj.body e).length<=1099511627776:=by
    have h1:=HL.o;have h2:=Hk.o;unfold aj.body;simp only [aa7,aj.iE,aev,ae0];split <;> simp <;> omega
   have Qy:n7=4+(aj.body e).length:=by rw [FI.o,aa7,afa]
   have hrb:∀ w',Sat w0 w' (aY (.slice (some ⟨b7,0,none⟩) n7 k7) (List.replicate 4 0++aj.body e)::XX)->aW 1 (.slice (some ⟨b7,4,none⟩) (n7-4) (k7-4)) (aB (aj.body e)) w':=by
    intro w' hw';have h1:=SS (lo:=4) (k:=n7-4) (Sat.rd hw') oQ (some ⟨b7,4,none⟩) (by rw [abL hk4];simp [sO]) Cb (k7-4);have h2:((aB (List.replicate 4 0++aj.body e)).drop 4).take (n7-4)=aB (aj.body e):=by
     rw [Bo,anT (by simp [aB])];have:(aB (List.replicate 4 0)).drop 4=[]:=by simp [aB]
     rw [this,aeV,adZ (by rw [aP];omega)]
    rw [h2]at h1;exact h1
   have BP:=Pm (F:=aY (.slice (some ⟨b7,0,none⟩) n7 k7) (List.replicate 4 0++aj.body e)::XX) (aj.body e) Nz hrb hS7 hbl;have uh:=uQ hbl;clear hrb hbl Qy;go_wp2_with fail;refine BP.mono ?_;rintro ee w8 ⟨v,rfl,rfl,rfl⟩;clear BP;have Ql:=aj.D5 (aj.body e);have GI:=Ew (aj.crc (aj.body e)) oQ hS7;have hwc:IntKind.u64.wrap (aj.crc (aj.body e):Int)=(aj.crc (aj.body e):Int):=by
    rw [show ∀ n:Int,IntKind.u64.wrap n=n%18446744073709551616 from λn=>by simp [IntKind.wrap,IntKind.bits,IntKind.signed]];omega
   have QG:(aj.crc (aj.body e):Int)%18446744073709551616=(aj.crc (aj.body e):Int):=by omega
   clear Ql;go_wp2_with fail;refine GI.mono ?_;rintro ee w9 ⟨v,rfl,iU,pb,rfl⟩;clear GI hwc QG;have QE:aW 1 (.slice pb 4 4) (aB (aj.le (aj.crc (aj.body e)) 4)) w9:=Sat.rd iU;go_wp2_with (refine adE (w0:=w0) (x:=aj.le (aj.crc (aj.body e)) 4) ah _ _ ah b7 n7 k7 ah ah iU.aT QE (by intro e0;have:=aj.iE (aj.crc (aj.body e)) 4;rw [e0]at this;cases this) (by rw [aj.iE,aa7,afa];omega) ?_;intro w10 dG)
   go_ret2
   have hfin:aj.encode e=(aj.le (aj.crc (aj.body e)) 4++aj.body e,0):=by unfold aj.encode;rw [abL (by rw [Hc.o];simp)]
   rw [hfin];refine ⟨_,rfl,_,rfl,⟨_,_,_,rfl⟩,?_⟩;have hdr:(List.replicate 4 (0:UInt8)++aj.body e).drop (aj.le (aj.crc (aj.body e)) 4).length=aj.body e:=by
    rw [aj.iE,anT yF0];simp
   rw [hdr]at dG;exact Qj _ _ (dG.sel 2 [0] rfl rfl)
 ·have Hf:=uQ (show aj.encode e=([],aj.check e) by unfold aj.encode;rw [adU hc]);have hcb:(aj.check e==0)=false:=by simpa using hc
  clear hc;generalize aj.check e=E at *
  go_wp2
  go_ret2
  rw [Hf.o];exact ⟨_,rfl,.slice none 0 0,rfl,⟨_,_,_,rfl⟩,Sat.dO.2 hS1.drop⟩
end
end Go.Proofs.Y
namespace Go.Seg
abbrev Bs:=List UInt8
def gY (n:Nat):Nat->Bs
 |0=>[]
 |k+1=>gY (n/10) k++[UInt8.ofNat (48+n%10)]
def lead:Bs:=[115,101,103,46]
def name (n:Int):ByteArray:=if n<0\/1048576<=n then ByteArray.empty else ⟨(lead++gY n.toNat 8).toArray⟩
theorem XB:∀ k,gY 0 k=List.replicate k 48
 |0=>rfl
 |k+1=>by
  show gY (0/10) k++[UInt8.ofNat (48+0%10)]=_;rw [Nat.zero_div,XB k,List.replicate_succ',show UInt8.ofNat (48+0%10)=48 from rfl]
theorem sU (n k:Nat):(gY n k).length=k:=by
 induction k generalizing n with
 |zero=>rfl
 |succ k ih=>simp [gY,ih]
def nR (c:UInt8):Bool:=decide (48<=c.toNat) && decide (c.toNat<=57)
def val (b:Bs):Nat:=b.foldl (λn c=>10*n+(c.toNat-48)) 0
theorem Na (b:Bs) (c:UInt8):val (b++[c])=10*val b+(c.toNat-48):=by unfold val;rw [apd];rfl
theorem anN (k:Nat):∀ n,n<10^k->val (gY n k)=n:=by
 induction k with
 |zero=>intro n h;simp at h;subst h;rfl
 |succ k ih=>
  intro n h;show val (gY (n/10) k++[UInt8.ofNat (48+n%10)])=n;rw [Na,ih (n/10) (by rw [Nat.div_lt_iff_lt_mul oQ];rw [apt]at h;exact h),aoB];omega
theorem Pq (k:Nat):∀ n,(gY n k).all nR=true:=by
 induction k with
 |zero=>intro n;rfl
 |succ k ih=>
  intro n;show (gY (n/10) k++[UInt8.ofNat (48+n%10)]).all nR=true;rw [ajk,ih,Bool.true_and];simp only [List.all_cons,List.all_nil,Bool.and_true,nR,aoB];rw [aeW,ad5,ad5];omega
theorem agB (b:Bs) (h:b.all nR=true):gY (val b) b.length=b:=by
 rw [<-List.reverse_reverse b]at *
 generalize b.reverse=r at *
 induction r with
 |nil=>rfl
 |cons c r ih=>
  rw [List.reverse_cons]at h ⊢;rw [ajk,aeW]at h;have hc:nR c=true:=by simpa using h.2
  unfold nR at hc;rw [aeW,ad5,ad5]at hc;rw [Na,aa7,ae3];show gY ((10*val r.reverse+(c.toNat-48))/10) r.reverse.length++[UInt8.ofNat (48+(10*val r.reverse+(c.toNat-48))%10)]=_;have e1:(10*val r.reverse+(c.toNat-48))/10=val r.reverse:=by omega
  have e2:48+(10*val r.reverse+(c.toNat-48))%10=c.toNat:=by omega
  rw [e1,e2,ih h.1,UInt8.ofNat_toNat]
theorem anO (b:Bs) (h:b.all nR=true):val b<10^b.length:=by
 rw [<-List.reverse_reverse b]at *
 generalize b.reverse=r at *
 induction r with
 |nil=>simp [val]
 |cons c r ih=>
  rw [List.reverse_cons]at h ⊢;rw [ajk,aeW]at h;have hc:nR c=true:=by simpa using h.2
  unfold nR at hc;rw [aeW,ad5,ad5]at hc;rw [Na,aa7,ae3,apt];have:=ih h.1;omega
def number (s:ByteArray):Int×Bool:=
 let l:=s.data.toList
 if l.length=12/\l.take 4=lead/\(l.drop 4).all nR=true/\val (l.drop 4)<1048576 then (val (l.drop 4),true) else (0,false)
end Go.Seg
namespace Go.Proofs.Y
open Go.ak
def mrow (q:Nat) (l:Bs):aF:=pt q (.cells (aB l).toArray 5 (l.length,l.length+1))
theorem KL {l:Bs} (h:Sat w0 w (mrow q l::F)){i:Nat} (hi:i<l.length) (x:UInt8) :
  w.cell? ⟨q,i,none⟩=some (.int .u8 (l[i]'hi).toNat)/\w.frozen? ⟨q,i,none⟩=false/\Sat w0 (w.setCell ⟨q,i,none⟩ (.int .u8 x.toNat)) (mrow q (l.set i x)::F):=by
 have hb:=h.at;refine ⟨?_,?_,?_⟩
 ·simp only [World.cell?,hb];rw [aeh];unfold aB;rw [ad1,aaJ hi];rfl
 ·simp only [World.frozen?,hb];simp;omega
 ·refine h.turn rfl rfl rfl yF0 ?_ ?_
  ·simp only [World.setCell,anQ,apc,hb];simp only [aiM,Option.some.injEq];rw [ahu]
   congr 1
   unfold aB;rw [List.setIfInBounds_toArray,List.map_set,abL yF0]
  ·intro j hj _;simp only [World.setCell,anQ];rw [abL (Ne.symm hj)]
theorem ajB {l:Bs} (h:Sat w0 w (mrow q l::F)) (c:Nat):(convert 59 9 (.slice (some ⟨q,0,none⟩) l.length c)).run prog w=.ok (.string ⟨l.toArray⟩) w:=by
 refine run_convert_bytes_back (P:=prog) w _ _ 5 _ c l underlying59 underlying5 underlying9 (λj hj=>?_);rw [sO];exact (KL h hj 0).1
theorem EI (n:Int) (h:Sat w0 w F) :
  Calls prog 71 #[.int .i64 n] w (aN λv w'=>v=.string (Seg.name n)/\Sat w0 w' F):=by
 by_cases h1:n<0
 ·have Hf:=uQ (show Seg.name n=ByteArray.empty by unfold Seg.name;rw [adU (.inl h1)]);go_enter func71,ntmps71;go_wp2;go_ret;exact ⟨_,rfl,by rw [Hf.o];rfl,h⟩
 have h1d:decide (n<0)=false:=aea h1;by_cases h2:1048576<=n
 ·have Hf:=uQ (show Seg.name n=ByteArray.empty by unfold Seg.name;rw [adU (.inr h2)]);go_enter func71,ntmps71;go_wp2;go_ret;exact ⟨_,rfl,by rw [Hf.o];rfl,h⟩
 have BM:decide (1048576<=n)=false:=aea h2;obtain ⟨m0,rfl⟩:=Int.eq_ofNat_of_zero_le (show 0<=n by omega);have Hf:=uQ (show Seg.name (m0:Int)=⟨(Seg.lead++Seg.gY m0 8).toArray⟩ by unfold Seg.name;rw [abL oQ];rfl);have hm0:m0<10^8:=by omega
 have Hm:=uQ hm0;have hcv:=Lib.run_convert_bytes_const (P:=prog) w 59 5 #[.int .u8 115,.int .u8 101,.int .u8 103,.int .u8 46,.int .u8 48,.int .u8 48,.int .u8 48,.int .u8 48,.int .u8 48,.int .u8 48,.int .u8 48,.int .u8 48] 12 12 underlying59 underlying5;have hB:Sat w0 (w.alloc (.cells #[.int .u8 115,.int .u8 101,.int .u8 103,.int .u8 46,.int .u8 48,.int .u8 48,.int .u8 48,.int .u8 48,.int .u8 48,.int .u8 48,.int .u8 48,.int .u8 48] 5 (12,13))) (mrow w.heap.size (Seg.lead++List.replicate 8 48)::F):=h.alloc _;simp only [abA,aev,ae0,aeE,Nat.reduceAdd]at hcv;clear hm0;go_enter func71,ntmps71;go_wp2_with fail;clear h1 h2 h1d BM;generalize w.heap.size=q at *
 go_loopg [0,4] 8 (λg nv iq wr=>∃ (k m:Nat) (tail:Bs),g=k/\k<=8/\nv=.int .i64 m/\iq=.int .i64 ((k:Int)+3)/\m<10^k/\Seg.lead++Seg.gY m0 8=Seg.lead++Seg.gY m k++tail/\tail.length=8-k /\
  Sat w0 wr (mrow q (Seg.lead++List.replicate k 48++tail)::F))
 case atStart=>exact ⟨8,m0,[],rfl,ab1 _,rfl,rfl,Hm.o,by simp,rfl,by simpa using hB⟩
 case round=>
  obtain ⟨k,m,tail,hgk,hk,rfl,rfl,hm,hfin,htl,hS⟩:=hrel;have ahT:=hgk.symm;subst ahT;have bF:=uQ hfin;have uq:=uQ htl;clear hB hfin htl;by_cases hp:0<m
  ·obtain ⟨k',rfl⟩:∃ k',k=k'+1:=by
    cases k with
    |zero=>simp at hm;omega
    |succ k'=>exact ⟨k',rfl⟩
   have hlen:(Seg.lead++List.replicate (k'+1) 48++tail).length=12:=by
    have:=uq.o;simp [Seg.lead];omega
   have hidx:k'+4<(Seg.lead++List.replicate (k'+1) 48++tail).length:=by omega
   obtain ⟨e0,e1,hS5⟩:=KL hS hidx (UInt8.ofNat (48+m%10));generalize (Seg.lead++List.replicate (k'+1) 48++tail)[k'+4]'hidx=old at e0;have hpi:(0:Int)<(m:Int):=by omega
   have hki:(k':Int)+4<12:=by omega
   have hdg:48+(m:Int)%10=((UInt8.ofNat (48+m%10)).toNat:Int):=by rw [aoB];omega
   have hm2:m<10*10^k':=by rw [apt]at hm;omega
   have hbig:10^(k'+1)<=10^8:=aoS aG hk;have hw1:IntKind.i64.wrap ((m:Int)/10)=(m:Int)/10:=by rw [alj];omega
   have FH:=uQ hm2;have Hdg:=uQ (show Seg.gY m (k'+1)=Seg.gY (m/10) k'++[UInt8.ofNat (48+m%10)] by rfl);have hc3:((k'+1:Nat):Int)+3=(k':Int)+4:=by omega
   rw [hc3];clear hm hm2 hlen hidx hbig;generalize UInt8.ofNat (48+m%10)=dg at *
   go_wp2_with fail
   go_roundg k'
   case rel=>
    refine ⟨k',m/10,dg::tail,rfl,by omega,?_,?_,?_,?_,?_,?_⟩
    ·congr 1
    ·congr 1;omega
    ·have:=FH.o;omega
    ·rw [bF.o,Hdg.o];simp
    ·have:=uq.o;simp;omega
    ·have e:(Seg.lead++List.replicate (k'+1) 48++tail).set (k'+4) dg=Seg.lead++List.replicate k' 48++dg::tail:=by
      have hl:(Seg.lead++List.replicate k' (48:UInt8)).length=k'+4:=by simp only [Seg.lead,aa7,afa,aev,ae0];omega
      rw [List.replicate_succ',<-ad2,ad2 (Seg.lead++List.replicate k' 48),List.set_append_right _ _ oQ,hl,aph]
      rfl
     rw [<-e];exact hS5
   case measure=>omega
  ·have hm0:m=0:=by omega
   subst hm0;have htx:=ajB hS 12;have hlen:(Seg.lead++List.replicate k 48++tail).length=12:=by
    have:=uq.o;simp [Seg.lead];omega
   rw [hlen]at htx;clear hm;go_wp2;go_ret;refine ⟨_,rfl,?_,hS.drop⟩;rw [Hf.o,bF.o,Seg.XB];simp
theorem O1 (s:ByteArray):(s.extract 0 4).toList=s.data.toList.take 4:=by
 rw [Go.Lib.extract_toList];simp
theorem afE (s:ByteArray) (h:s.size=12):(s.extract 4 12).data.toList=s.data.toList.drop 4:=by
 rw [Go.Lib.extract_data];refine adZ ?_;have:s.data.toList.length=12:=by rw [ad6];exact h
 rw [adX];omega
theorem Ue (s:ByteArray) (h:Sat w0 w F) :
  Calls prog 94 #[.string s] w (aN λv w'=>v=.tuple #[.int .i64 (Seg.number s).1,.bool (Seg.number s).2]/\Sat w0 w' F):=by
 by_cases h1:s.size=12
 ·have hs:((s.size:Int)=12):=by omega
  have h1d:decide ((s.size:Int)=12)=true:=aem hs;by_cases h2:s.data.toList.take 4=Seg.lead
  ·have BM:((s.extract 0 4).toList==[115,101,103,46])=true:=by rw [O1 s,h2];rfl
   have hN:=uQ (show Seg.number s=if (s.data.toList.drop 4).all Seg.nR=true/\Seg.val (s.data.toList.drop 4)<1048576 then ((Seg.val (s.data.toList.drop 4):Int),true) else (0,false) by
    unfold Seg.number;simp only [ad6,show s.data.size=12 from h1,h2,true_and])
   have Hb:=uQ (afE s h1);have hcv:=run_bytes_of_string (P:=prog) w 9 59 5 (s.extract 4 12) underlying9 underlying59 underlying5;have hz:(s.extract 4 12).size=8:=by simp [ByteArray.size_extract,h1]
   have hcell:∀ (i:Nat) (hi:i<8),((w.alloc (.cells (bytesRow (s.extract 4 12) (grownCap w (s.extract 4 12).size 0 5)) 5 ((bytesRow (s.extract 4 12) (grownCap w (s.extract 4 12).size 0 5)).size,(bytesRow (s.extract 4 12) (grownCap w (s.extract 4 12).size 0 5)).size+1))).drew).cell? ⟨w.heap.size,0+i,none⟩=some (.int .u8 ((s.extract 4 12).data[i]'(by have:(s.extract 4 12).data.size=8:=hz;omega)).toNat):=by
    intro i hi;rw [aeE];exact (World.cell?_alloc_mark w.drew _ _ _ _).trans (bytesRow_at _ _ _ _)
   have hB:Sat w0 ((w.alloc (.cells (bytesRow (s.extract 4 12) (grownCap w (s.extract 4 12).size 0 5)) 5 ((bytesRow (s.extract 4 12) (grownCap w (s.extract 4 12).size 0 5)).size,(bytesRow (s.extract 4 12) (grownCap w (s.extract 4 12).size 0 5)).size+1))).drew) F:=(h.drew.alloc _).drop;rw [hz]at hcv hcell hB;have Hlen:=uQ (show (s.data.toList.drop 4).length=8 by rw [adX,ad6,show s.data.size=12 from h1]);have hcell':∀ (i:Nat) (hi:i<(s.data.toList.drop 4).length),((w.alloc (.cells (bytesRow (s.extract 4 12) (grownCap w 8 0 5)) 5 ((bytesRow (s.extract 4 12) (grownCap w 8 0 5)).size,(bytesRow (s.extract 4 12) (grownCap w 8 0 5)).size+1))).drew).cell? ⟨w.heap.size,0+i,none⟩=some (.int .u8 ((s.data.toList.drop 4)[i]'hi).toNat):=by
    intro i hi;rw [hcell i (by rw [<-Hlen.o];exact hi)]
    congr 4
    have:=Hb.o;rw [<-Array.getElem_toList];exact getElem_congr this rfl _
   clear hcell;generalize grownCap w 8 0 5=cap at *
   generalize s.data.toList.drop 4=l at *
   go_enter func94,ntmps94;go_wp2_with fail;clear hcv h1d BM hs h1 h2;generalize World.drew _=wb at *
   generalize w.heap.size=q at *
   go_loopg [4,19] 8 (λg nv iq wr=>∃ i:Nat,g=8-i/\i<=8/\nv=.int .i64 (Seg.val (l.take i))/\iq=.int .i64 i/\(l.take i).all Seg.nR=true/\wr=wb)
   case atStart=>exact ⟨0,rfl,by omega,rfl,rfl,rfl,rfl⟩
   case round=>
    obtain ⟨i,rfl,hi,rfl,rfl,hall,rfl⟩:=hrel;have ug:=uQ hall;clear hall;by_cases hi':i<8
    ·have hil:i<l.length:=by have:=Hlen.o;omega
     have hc:=hcell' i hil;rw [aeE]at hc;have Hc:=uQ (apn hil);have hii:(i:Int)<8:=by omega
     have Hn:=uQ (show Seg.val (l.take (i+1))=10*Seg.val (l.take i)+(l[i].toNat-48) by rw [afB hil,Seg.Na]);have Hd:=uQ (show (l.take (i+1)).all Seg.nR=Seg.nR l[i] by rw [afB hil,ajk,ug.o,Bool.true_and];simp);have Hv:=uQ (Seg.anO _ ug.o);generalize l[i]=c at *
     by_cases hd:Seg.nR c=true
     ·have hd':=hd;unfold Seg.nR at hd';rw [aeW,ad5,ad5]at hd';have b1:¬ c.toNat<48:=by omega
      have b2:¬ 57<c.toNat:=by omega
      have b3:(c.toNat:Int)-48=((c.toNat-48:Nat):Int):=by omega
      have aif:Seg.val (l.take i)<100000000:=by
       have:=Hv.o;rw [adt]at this;exact Nat.lt_of_lt_of_le this (aoS aG oQ:_<=10^8)
      have Dy:=uQ hd';have b4:IntKind.i64.wrap (10*(Seg.val (l.take i):Int))=10*(Seg.val (l.take i):Int):=by rw [alj];omega
      have b5:IntKind.i64.wrap (10*(Seg.val (l.take i):Int)+((c.toNat-48:Nat):Int))=10*(Seg.val (l.take i):Int)+((c.toNat-48:Nat):Int):=by rw [alj];omega
      have b6:IntKind.i64.wrap ((i:Int)+1)=(i:Int)+1:=by rw [alj];omega
      clear aif hd' hcell';generalize c.toNat-48=d at *
      go_wp2_with fail
      go_roundg (8-(i+1))
      case measure=>omega
      case rel=>
       refine ⟨i+1,rfl,by omega,?_,rfl,by rw [Hd.o,hd],rfl⟩;rw [Hn.o];rfl
     ·have hno:¬ (l.all Seg.nR=true/\Seg.val l<1048576):=λhh=>hd (agt.1 hh.1 _ Hc.o);have YJ:=uQ (hN.o.trans (abL hno));have hd':=hd;unfold Seg.nR at hd';rw [aeW,ad5,ad5]at hd';clear hcell' hno Hn Hd;by_cases b1:c.toNat<48
      ·clear hd';go_wp2
       go_ret2
       exact ⟨_,rfl,by rw [YJ.o];rfl,hB⟩
      ·have b2:57<c.toNat:=by omega
       clear hd';go_wp2
       go_ret2
       exact ⟨_,rfl,by rw [YJ.o];rfl,hB⟩
    ·obtain rfl:i=8:=by omega
     have hc8:((8:Nat):Int)=8:=rfl;rw [hc8];clear hc8 hi;have htk:=uQ (show l.take 8=l from adZ yS0)
     have hN3:=uQ (show Seg.number s=if Seg.val l<1048576 then ((Seg.val l:Int),true) else (0,false) by
      have:=ug.o;rw [htk.o]at this;rw [hN.o];simp only [this,true_and])
     rw [htk.o];clear hcell' hi';obtain ⟨V,hV⟩:∃ V:Int,V=(Seg.val l:Int):=⟨_,rfl⟩;have HV:=uQ hV;rw [<-hV];by_cases hv:1048576<=V
     ·have hvd:decide (1048576<=V)=true:=aem hv;have Hv:=uQ hv;clear hv hV;go_wp2
      go_ret2
      exact ⟨_,rfl,by rw [hN3.o,abL (by have:=Hv.o;have:=HV.o;omega)];rfl,hB⟩
     ·have hvd:decide (1048576<=V)=false:=aea hv;have Hv:=uQ hv;clear hv hV;go_wp2
      go_ret2
      exact ⟨_,rfl,by rw [hN3.o,adU (by have:=Hv.o;have:=HV.o;omega),<-HV.o];rfl,hB⟩
  ·have BM:((s.extract 0 4).toList==[115,101,103,46])=false:=by rw [O1 s];exact aoW h2
   have hN:=uQ (show Seg.number s=(0,false) by
    unfold Seg.number;simp only [h2,false_and,and_false,ao7])
   go_enter func94,ntmps94;go_wp2
   go_ret2
   exact ⟨_,rfl,by rw [hN.o];rfl,h⟩
 ·have hs:¬ ((s.size:Int)=12):=by omega
  have h1d:decide ((s.size:Int)=12)=false:=aea hs
  have hN:=uQ (show Seg.number s=(0,false) by
    unfold Seg.number;simp only [ad6,show ¬ s.data.size=12 from h1,false_and,ao7])
  go_enter func94,ntmps94;go_wp2
  go_ret2
  exact ⟨_,rfl,by rw [hN.o];rfl,h⟩
end Go.Proofs.Y
