import Derived.Test.YtihngncbioofnaaGreatDoorJ1
import Derived.Sort.Walk0
import Derived.Laws.BitsAllLaws
import Derived.Laws.Strings
import Derived.Deep.Slices
import Derived.WalkKit
import Derived.ProofKit
import Derived.OpenShut
import Derived.ShutString
import Derived.ChangeOld
import Derived.Below
import Derived.ChangeKeysEq
import Derived.Laws.Rows
import Derived.Laws.OwnMore
import Derived.Laws.CopyOwn
import Derived.Lib.SlBytesConst
import Derived.Laws.IdiomStrings
open Go.Proofs.Tryz
set_option maxRecDepth 20000
open Go Go.Sl Go.MapKept Go.RowKit
open Go.Proofs.YtihngncbioofnaaGreatDoor
variable {w0 w:World}{F:List aG}{v bv wv dv lv x av:Value}{m K fb nb b r q:Nat}{M:ay.ay}{bs:List Nat}{s:ByteArray}{fs:List ay.bK}{l:ay.Names}{f:ay.bK}{P:Program}{ops:Array Oper}{rest:List Oper}{a:Act}{Q:Exit->Act->World->Prop}
theorem yG0{p:Prop} (h:p:=by rw [iK.o];kernel_rfl):p:=h
theorem yM0{p:Prop} (h:p:=by have:=Hlen.o;omega):p:=h
theorem yW0{p:Prop} (h:p:=by simp;omega):p:=h
theorem yY0{p:Prop} (h:p:=by rw [M.jZ.2.2.2.1];exact hl):p:=h
theorem zF0{p:Prop} (h:p:=by unfold maxLen;omega):p:=h
namespace Go.Sl
open Go
theorem kP {α : Type} : (∀ (l : List α) (i : Nat) (h : i < l.toArray.size), l.toArray[i]'h = l[i]' yP0) /\ (∀ (x : α) (l : List α) (i : Nat) (h : i + 1 < (x :: l).length), (x :: l)[i + 1]'h = l[i]' yP0) /\ (∀ (x : α) (l : List α) (h : 0 < (x :: l).length), (x :: l)[0]'h = x) := ⟨λ_ _ h => List.getElem_toArray h, λ_ _ _ _ => rfl, λ_ _ _ => rfl⟩
section
variable {P : Program} {ops : Array Oper} {Q : Exit -> Act -> World -> Prop} {late : List Nat} {G : World -> Prop}
end
end Go.Sl
set_option linter.unusedVariables false
set_option linter.unusedSimpArgs false
set_option maxHeartbeats 128000000
namespace Go.Proofs.Y
open Go.ay
theorem Gt (hM:M.Ok K) (h:Sat w0 w (aJ m M::F)) (s:ByteArray) :
  Calls prog 104 #[ptr m,.string s] w (aP λv w'=>v=.tuple #[.int .i64 (M.size s).1,errno (M.size s).2]/\w=w'):=by
 obtain ⟨bs,fb,nb,wv,hl,hR⟩:=aJ.open h;cases ho:M.off
 ·cases hn:bU M.now s with
  |none=>
   have hf:=Ac (s:=s) hR ho hn;have bH:Hid (M.size s=(0,9)):=by show _=_;simp [ay.size,ho,hn]
   clear ho hn;go_enter func104,ntmps104;go_wp2_with (go_at_call 90;refine hf.mono ?_;rintro e w1 ⟨v,rfl,rfl,rfl⟩)
   go_ret2
   exact ⟨_,rfl,by rw [bH.o];rfl,rfl⟩
  |some i=>
   have hf:=Ae (s:=s) hR ho hn;have hid:i<M.files.length:=hM.ig.ids (s,i) (jD hn);obtain ⟨fa,fn,fc,na,nc,wv',f0,f1,f2,_,_,_,hna⟩:=Jq (hR.sel 3 [2] rfl rfl) hl hid;have bH:Hid (M.size s=(((M.file i).now.length:Int),0)):=by show _=_;simp [ay.size,ho,hn]
   clear ho hn hna;change w.cell? ⟨bs.getD i 0,1,none⟩=some (.slice na (M.file i).now.length nc) at f1;generalize bs.getD i 0=q at *
   go_enter func104,ntmps104;go_wp2_with (go_at_call 90;refine hf.mono ?_;rintro e w1 ⟨v,rfl,rfl,rfl⟩)
   go_ret2
   refine ⟨.tuple #[.int .i64 (M.file i).now.length,errno 0],rfl,?_,rfl⟩;rw [bH.o]
 ·have hf:=Ad (s:=s) hR ho;have bH:Hid (M.size s=(0,12)):=by show _=_;simp [ay.size,ho]
  clear ho;go_enter func104,ntmps104;go_wp2_with (go_at_call 90;refine hf.mono ?_;rintro e w1 ⟨v,rfl,rfl,rfl⟩)
  go_ret2
  exact ⟨_,rfl,by rw [bH.o];rfl,rfl⟩
theorem Ob (hM:M.Ok K) (h:Sat w0 w (aJ m M::F)) (s:ByteArray) :
  Calls prog 47 #[ptr m,.string s] w (aP λv w'=>∃ bv,v=.tuple #[bv,errno (M.all s).2]/\Sat w0 w' (bQ bv (M.all s).1::aJ m M::F)):=by
 obtain ⟨bs,fb,nb,wv,hl,hR⟩:=aJ.open h;cases ho:M.off
 ·cases hn:bU M.now s with
  |none=>
   have hf:=Ac (s:=s) hR ho hn;have bH:Hid (M.all s=([],9)):=by show _=_;simp [ay.all,ho,hn]
   clear ho hn;go_enter func47,ntmps47;go_wp2_with (go_at_call 90;refine hf.mono ?_;rintro e w1 ⟨v,rfl,rfl,rfl⟩)
   go_ret2
   exact ⟨_,rfl,.slice none 0 0,by rw [bH.o];rfl,by rw [bH.o];exact Sat.gB.2 h⟩
  |some i=>
   have hf:=Ae (s:=s) hR ho hn;have hid:i<M.files.length:=hM.ig.ids (s,i) (jD hn);obtain ⟨fa,fn,fc,na,nc,wv',f0,f1,f2,hrd,hcap,hnc,hna⟩:=Jq (hR.sel 3 [2] rfl rfl) hl hid;have hcl:=wI h hrd (by have:=(hM.file i).vG;unfold ay.file at this;omega);have bH:Hid (M.all s=((M.file i).now,0)):=by show _=_;simp [ay.all,ho,hn]
   clear ho hn hrd hcap hnc hna;change w.cell? ⟨bs.getD i 0,1,none⟩=some (.slice na (M.file i).now.length nc) at f1;change Calls _ _ #[.slice na (M.file i).now.length nc] _ _ at hcl;generalize bs.getD i 0=q at *
   go_enter func47,ntmps47
   go_wp2_with (first
    |(go_at_call 90;refine hf.mono ?_;rintro e w1 ⟨v,rfl,rfl,rfl⟩)
    |(go_at_call 91;refine hcl.mono ?_;rintro e w1 ⟨v,rfl,hS,_⟩))
   go_ret2
   exact ⟨_,rfl,v,by rw [bH.o];rfl,by rw [bH.o];exact hS⟩
 ·have hf:=Ad (s:=s) hR ho;have bH:Hid (M.all s=([],12)):=by show _=_;simp [ay.all,ho]
  clear ho;go_enter func47,ntmps47;go_wp2_with (go_at_call 90;refine hf.mono ?_;rintro e w1 ⟨v,rfl,rfl,rfl⟩)
  go_ret2
  exact ⟨_,rfl,.slice none 0 0,by rw [bH.o];rfl,by rw [bH.o];exact Sat.gB.2 h⟩
theorem Rz {a:Option Addr}{n c lo k:Nat}{xs:List Value} (h:bF 1 (.slice a n c) xs w) (hk:lo+k<=n) (x:Option Addr) (hx:x=if c=lo then a else a.map (·.add lo)) (hc:n<=c) (c':Nat):bF 1 (.slice x k c') ((xs.drop lo).take k) w:=by
 obtain ⟨a',n',c'',he,hl,hcell⟩:=h;cases he;rw [aes]at hl;refine ⟨x,k,c',rfl,by simp;omega,λi y hi=>?_⟩;rw [aeY]at hi;split at hi
 ·rename_i hik;rw [ao5]at hi;obtain ⟨b,hb,hy⟩:=hcell _ y hi;subst hb;have:¬ c=lo:=by omega
  rw [abj this]at hx;refine ⟨b.add lo,by simpa using hx,?_⟩;have:(b.add lo).add i=b.add (lo+i):=by
   unfold Addr.add;by_cases h1:lo=0
   ·subst h1;simp
   ·by_cases h2:i=0
    ·subst h2;simp
    ·simp [h1,h2];omega
  rw [this];exact hy
 ·cases hi
theorem alr (hM:M.Ok K) (h:Sat w0 w (aJ m M::F)) (s:ByteArray) (at_ n:Int) (ha : -9223372036854775808<=at_/\at_<=9223372036854775807) (hn : -9223372036854775808<=n/\n<=9223372036854775807) :
  Calls prog 149 #[ptr m,.string s,.int .i64 at_,.int .i64 n] w (aP λv w'=>∃ bv,v=.tuple #[bv,errno (M.read s at_ n).2]/\Sat w0 w' (bQ bv (M.read s at_ n).1::aJ m M::F)):=by
 obtain ⟨bs,fb,nb,wv,hl,hR⟩:=aJ.open h;obtain ⟨ha1,ha2⟩:=ha;obtain ⟨hn1,hn2⟩:=hn;cases ho:M.off
 ·cases hg:bU M.now s with
  |none=>
   have hf:=Ac (s:=s) hR ho hg;have bH:Hid (M.read s at_ n=([],9)):=by show _=_;simp [ay.read,ho,hg]
   clear ho hg;go_enter func149,ntmps149;go_wp2_with (go_at_call 90;refine hf.mono ?_;rintro e w1 ⟨v,rfl,rfl,rfl⟩)
   go_ret2
   exact ⟨_,rfl,.slice none 0 0,by rw [bH.o];rfl,by rw [bH.o];exact Sat.gB.2 h⟩
  |some i=>
   have hf:=Ae (s:=s) hR ho hg;have hid:i<M.files.length:=hM.ig.ids (s,i) (jD hg);obtain ⟨fa,fn,fc,na,nc,wv',f0,f1,f2,hrd,hcap,hnc,hna⟩:=Jq (hR.sel 3 [2] rfl rfl) hl hid;have hnl:=(hM.file i).vG;change w.cell? ⟨bs.getD i 0,1,none⟩=some (.slice na (M.file i).now.length nc) at f1;change bF 1 (.slice na (M.file i).now.length nc) (aA (M.file i).now) w at hrd;change (M.file i).now.length<=nc at hcap;generalize hL:(M.file i).now=L at *
   have HL:=uQ hL;clear hL;generalize bs.getD i 0=q at *
   have Hg:=uQ hg;have Ho:=uQ ho;clear hg ho;have hread:∀ x:Bs×Int,x=(if at_<0\/n<0 then ([],2) else if (L.length:Int)<at_\/(L.length:Int)-at_<n then ([],3) else ((L.drop at_.toNat).take n.toNat,0))->M.read s at_ n=x:=by
    rintro x rfl;simp only [ay.read,Ho.o,Hg.o,HL.o,afX,apA]
   have pR:=uQ hread;clear hread;by_cases h1:at_<0
   ·go_enter func149,ntmps149;go_wp2_with (go_at_call 90;refine hf.mono ?_;rintro e w1 ⟨v,rfl,rfl,rfl⟩)
    go_ret2
    have:=pR.o _ (acg (.inl h1)).symm;exact ⟨_,rfl,.slice none 0 0,by rw [this];rfl,by rw [this];exact Sat.gB.2 h⟩
   have h1':decide (at_<0)=false:=by simpa using h1
   by_cases h2:n<0
   ·go_enter func149,ntmps149;go_wp2_with (go_at_call 90;refine hf.mono ?_;rintro e w1 ⟨v,rfl,rfl,rfl⟩)
    go_ret2
    have:=pR.o _ (acg (.inr h2)).symm;exact ⟨_,rfl,.slice none 0 0,by rw [this];rfl,by rw [this];exact Sat.gB.2 h⟩
   have h2':decide (n<0)=false:=by simpa using h2
   obtain ⟨a,rfl⟩:=Int.eq_ofNat_of_zero_le (show 0<=at_ by omega);obtain ⟨k,rfl⟩:=Int.eq_ofNat_of_zero_le (show 0<=n by omega);have h12:¬ ((a:Int)<0\/(k:Int)<0):=by omega
   by_cases h3:(L.length:Int)<a
   ·go_enter func149,ntmps149;go_wp2_with (go_at_call 90;refine hf.mono ?_;rintro e w1 ⟨v,rfl,rfl,rfl⟩)
    go_ret2
    have:=pR.o _ ((abj h12).trans (acg (.inl h3))).symm;exact ⟨_,rfl,.slice none 0 0,by rw [this];rfl,by rw [this];exact Sat.gB.2 h⟩
   have h3':decide ((L.length:Int)<a)=false:=by simpa using h3
   by_cases h4:(L.length:Int)-a<k
   ·go_enter func149,ntmps149;go_wp2_with (go_at_call 90;refine hf.mono ?_;rintro e w1 ⟨v,rfl,rfl,rfl⟩)
    go_ret2
    have:=pR.o _ ((abj h12).trans (acg (.inr h4))).symm;exact ⟨_,rfl,.slice none 0 0,by rw [this];rfl,by rw [this];exact Sat.gB.2 h⟩
   have h4':decide ((L.length:Int)-a<k)=false:=by simpa using h4
   have Jw:¬ ((L.length:Int)<a\/(L.length:Int)-a<k):=by omega
   have hfin:=pR.o _ ((abj h12).trans (abj Jw)).symm;have bH:=uQ hfin;clear hfin;have hcl:∀ x,x=(if nc=a then na else na.map (·.add a))->Calls prog 91 #[.slice x k (nc-a)] w (aP λv' w'=>Sat w0 w' (bQ v' ((L.drop a).take k)::aJ m M::F)/\∃ a n c,v'=.slice a n c):=by
    intro x hx;refine wI h ?_ yW0;have:=Rz (lo:=a) (k:=k) hrd oQ x hx hcap (nc-a);simpa [aA,aoU,List.map_drop] using this
   have jT:=uQ hcl;clear hcl hrd;have e5:(a:Int)+k<=nc:=by omega
   rcases hna with ⟨rfl,rfl⟩|⟨g,rfl⟩
   ·obtain rfl:a=0:=by omega
    obtain rfl:k=0:=by omega
    have hcl:=jT.o none yF0;simp only [ajN]at hcl;clear pR jT;go_enter func149,ntmps149;go_wp2_with (first|(go_at_call 90;refine hf.mono ?_;rintro e w1 ⟨v,rfl,rfl,rfl⟩)|(go_at_call 91;go_must (refine hcl.mono ?_);rintro e w1 ⟨v,rfl,hS,_⟩))
    go_ret2
    exact ⟨_,rfl,v,by rw [bH.o];rfl,by rw [bH.o];exact hS⟩
   ·clear pR;by_cases hca:nc=a
    ·subst hca;obtain rfl:k=0:=by omega
     have hcl:=jT.o (some ⟨g,0,none⟩) yF0;simp only [ajN]at hcl;clear jT;go_enter func149,ntmps149;go_wp2_with (first|(go_at_call 90;refine hf.mono ?_;rintro e w1 ⟨v,rfl,rfl,rfl⟩)|(go_at_call 91;go_must (refine hcl.mono ?_);rintro e w1 ⟨v,rfl,hS,_⟩))
     go_ret2
     exact ⟨_,rfl,v,by rw [bH.o];rfl,by rw [bH.o];exact hS⟩
    ·have hcl:=jT.o (some ⟨g,a,none⟩) (by rw [abj hca];simp [rC]);clear jT;go_enter func149,ntmps149;go_wp2_with (first|(go_at_call 90;refine hf.mono ?_;rintro e w1 ⟨v,rfl,rfl,rfl⟩)|(go_at_call 91;go_must (refine hcl.mono ?_);rintro e w1 ⟨v,rfl,hS,_⟩))
     go_ret2
     exact ⟨_,rfl,v,by rw [bH.o];rfl,by rw [bH.o];exact hS⟩
 ·have hf:=Ad (s:=s) hR ho;have bH:Hid (M.read s at_ n=([],12)):=by show _=_;simp [ay.read,ho]
  clear ho;go_enter func149,ntmps149;go_wp2_with (go_at_call 90;refine hf.mono ?_;rintro e w1 ⟨v,rfl,rfl,rfl⟩)
  go_ret2
  exact ⟨_,rfl,.slice none 0 0,by rw [bH.o];rfl,by rw [bH.o];exact Sat.gB.2 h⟩
theorem aaD (room:Nat) (hr:room<=16777216) (h:Sat w0 w F) :
  Calls prog 51 #[.int .i64 room] w (aP λv w'=>∃ m,v=.tuple #[ptr m,errno 0]/\Sat w0 w' (aJ m (ay.new room)::F)):=by
 have h2:decide ((room:Int)<0)=false:=by rw [ae1];omega
 have h3:decide (16777216<(room:Int))=false:=by rw [ae1];omega
 have hmm:=@run_makeMap prog;have hA:=((h.F7 .string).F7 .string);have hB:=hA.alloc (.cells #[.int .i64 room,.map (some w.heap.size),.map (some (w.heap.size+1)),.slice none 0 0,.bool false,.int .i64 0,.bool false] 126);go_enter func51,ntmps51;go_wp2
 go_ret2
 refine ⟨_,rfl,_,rfl,?_⟩;refine aJ.shut (bs:=[]) (fb:=w.heap.size) (nb:=w.heap.size+1) (wv:= .slice none 0 0) rfl ?_;have h5:Sat w0 _ (aC 133 3 (.slice none 0 0) []::Sl.emp::_::_::_::F):=Sat.gB.2 (Sat.emp.2 hB);simp only [World.size_alloc]at h5;exact h5.sel 5 [2,3,1,4,0] rfl rfl
theorem JY (hM:M.Ok K) (h:Sat w0 w (aJ m M::F)) :
  Calls prog 102 #[ptr m] w (aP λv w'=>Sat w0 w' (aC 9 1 v (strs M.list)::aJ m M::F)/\∃ a n c,v=.slice a n c):=by
 obtain ⟨bs,fb,nb,wv,hl,hR⟩:=aJ.open h;have hd:=zY hR;have c2:=hR.cellAt 2 _ rfl;cases ho:M.off
 ·rw [ho]at hd;have hnm:=ajX (hR.sel 5 [1,0,2,3,4] rfl rfl) hM.ig.ny (by have:=hM.ig.len;omega);have bH:Hid (M.list=M.now.map (·.1)):=by show _=_;simp [ay.list,ho]
  clear ho;go_enter func102,ntmps102;go_wp2_with (first|(go_at_call 63;refine hd.mono ?_;rintro e w1 ⟨v,rfl,rfl,rfl⟩)|(go_at_call 67;go_must (refine hnm.mono ?_);rintro e w1 ⟨v,rfl,hS,a1,n1,k1,rfl⟩));go_ret;refine ⟨_,rfl,?_,_,_,_,rfl⟩;rw [bH.o];exact (aJ.shut hl (hS.sel 6 [2,1,3,4,5,0] rfl rfl)).bf
 ·rw [ho]at hd;have bH:Hid (M.list=[]):=by show _=_;simp [ay.list,ho]
  clear ho;go_enter func102,ntmps102;go_wp2_with (go_at_call 63;refine hd.mono ?_;rintro e w1 ⟨v,rfl,rfl,rfl⟩);go_ret;refine ⟨.slice none 0 0,rfl,?_,_,_,_,rfl⟩;rw [bH.o];exact Sat.gB.2 h
theorem Yt (bs:List Nat) (b i:Nat) (h:i<bs.length):(bs++[b]).getD i 0=bs.getD i 0:=by
 simp [adT,aej h]
theorem aav (h:∀ p∈l,p.2<bs.length) (b:Nat):dZ (bs++[b]) l=dZ bs l:=by
 unfold dZ;apply akU;intro p hp;rw [Yt bs b p.2 (h p hp)]
theorem ajH {ws:List jc} (h:∀ x∈ws,x.to≠ByteArray.empty->x.f<bs.length) (b:Nat):ws.flatMap (nX (bs++[b]))=ws.flatMap (nX bs):=by
 induction ws with
 |nil=>rfl
 |cons x ws ih=>
  rw [ael,ael,ih λy hy=>h y (.tail _ hy)]
  congr 1
  unfold nX;by_cases ht:x.to=ByteArray.empty
  ·simp [ht]
  ·simp only [abj ht];rw [Yt bs b x.f (h x (.head _) ht)]
theorem ajD (h:Sat w0 w (omap .string b (dZ bs l)::F)) (ty:TypeId):(Builtin.len_ #[123] ty #[.map (some b)]).run prog w=.ok (.int .i64 l.length) w:=by
 have:=acy (P:=prog) underlying123 ty h;simpa [dZ] using this
theorem uD (h:Sat w0 w (oH m M.step.1 fb nb wv::[omap .string nb (dZ bs M.now),oM bs M.files,omap .string fb (dZ bs M.fast),aC 133 3 wv (M.waits.flatMap (nX bs))]++F)):Sat w0 w (wu m M.step.1 bs fb nb wv++F):=by
 obtain ⟨e1,e2,e3,e4,e5⟩:=M.jZ;unfold wu;rw [e2,e3,e4,e5];exact h
theorem adS (h:Sat w0 w (Cc b (.slice none 0 0) (.slice none 0 0) (.slice none 0 0)::F)):Sat w0 w (kZ b bK.new::F):=by
 refine kZ.shut (fv:= .slice none 0 0) (nv:= .slice none 0 0) (wv:= .slice none 0 0) (ws:=[]) rfl ?_;have h1:Sat w0 w (bQ (.slice none 0 0) []::bQ (.slice none 0 0) []::aC 199 3 (.slice none 0 0) []::uT []::_):=Sat.gB.2 (Sat.gB.2 (Sat.gB.2 (Sat.emp.2 h)));exact h1.sel 5 [4,0,1,2,3] rfl rfl
theorem ags (hM:M.Ok K) (hK:K<=1099511627776) (hl:bs.length=M.files.length) (hs:s≠ByteArray.empty) (h:Sat w0 w (wu m M bs fb nb wv++F)) :
  Calls prog 129 #[ptr m,.agg #[.string { data:=#[] },.string s,ptr w.heap.size]] (w.alloc (.cells #[.slice none 0 0,.slice none 0 0,.slice none 0 0] 130))
   (aP λ_ w'=>Sat w0 w' (aJ m (({ M with files:=M.files++[bK.new] }:ay).link ⟨ByteArray.empty,s,M.files.length⟩)::F)):=by
 have h1:=h.alloc (.cells #[.slice none 0 0,.slice none 0 0,.slice none 0 0] 130);have h2:=adS h1;generalize w.heap.size=q at *
 have e1:dZ (bs++[q]) M.now=dZ bs M.now:=aav (λp hp=>by rw [hl];exact hM.ig.ids p hp) q;have e2:dZ (bs++[q]) M.fast=dZ bs M.fast:=aav (λp hp=>by rw [hl];exact hM.ahh.ids p hp) q;have e3:M.waits.flatMap (nX (bs++[q]))=M.waits.flatMap (nX bs):=ajH (λx hx ht=>by rw [hl];exact hM.links x hx ht) q;have e4:oM (bs++[q]) (M.files++[bK.new])=star (kZ q bK.new) (oM bs M.files):=X5 _ _ _ _ hl;have h3:Sat w0 _ (kZ q bK.new::oM bs M.files::oH m M fb nb wv::omap .string nb (dZ bs M.now)::aC 133 3 wv (M.waits.flatMap (nX bs))::omap .string fb (dZ bs M.fast)::F):=h2.sel 6 [0,3,1,2,5,4] rfl rfl;have h4:=Sat.star.2 h3;rw [<-e4,<-e1,<-e2,<-e3]at h4;have h5:=h4.sel 5 [1,2,3,0,4] rfl rfl;have hlk:=aac (M:={ M with files:=M.files++[bK.new] }) (bs:=bs++[q]) ⟨ByteArray.empty,s,M.files.length⟩ h5 (adt hM.budget hK);have e5:oU (bs++[q]) ⟨ByteArray.empty,s,M.files.length⟩=ptr q:=by
  unfold oU;rw [abj hs];simp [adT,<-hl]
 rw [e5]at hlk;refine hlk.mono ?_;rintro e w1 ⟨v,rfl,wv',hS⟩;refine ⟨v,rfl,aJ.shut (bs:=bs++[q]) (fb:=fb) (nb:=nb) (wv:=wv') (by simp [ay.link,hl]) ?_⟩;exact hS.sel 5 [0,1,3,4,2] rfl rfl
theorem OM (hM:M.Ok K) (hK:K<=1099511627776) (h:Sat w0 w (aJ m M::F)) (s:ByteArray) (hs:s.size<=9223372036854775807) :
  Calls prog 140 #[ptr m,.string s] w (aP λv w'=>v=errno (M.create s).2/\Sat w0 w' (aJ m (M.create s).1::F)):=by
 obtain ⟨bs,fb,nb,wv,hl,hR⟩:=aJ.open h;have hd:=zY hR;have hg:=Yz s w hs;have c2:=hR.cellAt 2 _ rfl;cases ho:M.off
 ·rw [ho]at hd;cases hgs:good s
  ·rw [hgs]at hg;have bH:Hid (M.create s=(M,7)):=by show _=_;simp [ay.create,ho,hgs]
   clear ho hgs;go_enter func140,ntmps140;go_wp2_with (first|(go_at_call 63;refine hd.mono ?_;rintro e w1 ⟨v,rfl,rfl,rfl⟩)|(go_at_call 176;refine hg.mono ?_;rintro e w1 ⟨v,rfl,rfl,rfl⟩));go_ret;exact ⟨errno 7,rfl,by rw [bH.o],by rw [bH.o];exact h⟩
  rw [hgs]at hg;have hlk:=Qx (s:=s) (hR.bf);cases hn:bU M.now s with
  |some i=>
   have bH:Hid (M.create s=(M,10)):=by show _=_;simp [ay.create,ho,hgs,hn]
   rw [Ag,hn]at hlk;clear ho hgs hn;simp only at hlk;generalize bs.getD i 0=q at hlk;go_enter func140,ntmps140;go_wp2_with (first|(go_at_call 63;refine hd.mono ?_;rintro e w1 ⟨v,rfl,rfl,rfl⟩)|(go_at_call 176;refine hg.mono ?_;rintro e w1 ⟨v,rfl,rfl,rfl⟩));go_ret;exact ⟨errno 10,rfl,by rw [bH.o],by rw [bH.o];exact h⟩
  |none=>
   rw [Ag,hn]at hlk;simp only at hlk;have hlen:=λty=>ajD (hR.bf) ty;by_cases Pq:500<=(M.now.length:Int)
   ·have bH:Hid (M.create s=(M,16)):=by
     show _=_;have:500<=M.now.length:=by omega
     simp [ay.create,ho,hgs,hn,this]
    clear ho hgs hn;go_enter func140,ntmps140;go_wp2_with (first|(go_at_call 63;refine hd.mono ?_;rintro e w1 ⟨v,rfl,rfl,rfl⟩)|(go_at_call 176;refine hg.mono ?_;rintro e w1 ⟨v,rfl,rfl,rfl⟩));go_ret;exact ⟨errno 16,rfl,by rw [bH.o],by rw [bH.o];exact h⟩
   have Jz:¬ 500<=M.now.length:=by omega
   have hb5:decide ((500:Int)<=(M.now.length:Int))=false:=by rw [ae1];exact Pq
   have hst:=Bc hR hM.left;cases hstep:M.step.2
   ·rw [hstep]at hst;have bH:Hid (M.create s=(M.step.1,12)):=by show _=_;simp [ay.create,ho,hgs,hn,Jz,hstep]
    clear ho hgs hn hstep Pq Jz;go_enter func140,ntmps140;go_wp2_with (first|(go_at_call 63;refine hd.mono ?_;rintro e w1 ⟨v,rfl,rfl,rfl⟩)|(go_at_call 176;refine hg.mono ?_;rintro e w1 ⟨v,rfl,rfl,rfl⟩)|(go_at_call 128;refine hst.mono ?_;rintro e w1 ⟨v,rfl,rfl,hS1⟩));go_ret;refine ⟨errno 12,rfl,by rw [bH.o],?_⟩;rw [bH.o];exact aJ.shut (bs:=bs) (fb:=fb) (nb:=nb) (wv:=wv) yY0 (uD hS1)
   ·rw [hstep]at hst;have bH:Hid (M.create s=(({ M.step.1 with files:=M.files++[bK.new] }:ay).link ⟨ByteArray.empty,s,M.files.length⟩,0)):=by show _=_;simp [ay.create,ho,hgs,hn,Jz,hstep]
    have hne:=rE hgs;clear ho hgs hn hstep Pq Jz;have hl':bs.length=M.step.1.files.length:=by rw [M.jZ.2.2.2.1];exact hl
    have zy:=uQ hl';clear hl';go_enter func140,ntmps140;go_wp2_with (first|(go_at_call 63;refine hd.mono ?_;rintro e w1 ⟨v,rfl,rfl,rfl⟩)|(go_at_call 176;refine hg.mono ?_;rintro e w1 ⟨v,rfl,rfl,rfl⟩)|(go_at_call 128;refine hst.mono ?_;rintro e w1 ⟨v,rfl,rfl,hS1⟩)|(go_at_call 129;go_must (refine (ags hM.step hK zy.o hne (uD hS1)).mono ?_);rintro e w2 ⟨v2,rfl,hS2⟩));go_ret;refine ⟨errno 0,rfl,by rw [bH.o],?_⟩;rw [bH.o];have e4:=M.jZ.2.2.2.1;rw [e4]at hS2;exact hS2
 ·rw [ho]at hd;have bH:Hid (M.create s=(M,12)):=by show _=_;simp [ay.create,ho]
  clear ho;go_enter func140,ntmps140;go_wp2_with (go_at_call 63;refine hd.mono ?_;rintro e w1 ⟨v,rfl,rfl,rfl⟩);go_ret;exact ⟨errno 12,rfl,by rw [bH.o],by rw [bH.o];exact h⟩
theorem abE (hl:bs.length=M.files.length){i:Nat} (hi:i<M.files.length) (h:Sat w0 w (wu m M bs fb nb wv++F)) :
  ∃ G:aG,Sat w0 w (kZ (bs.getD i 0) (M.file i)::oH m M fb nb wv::omap .string nb (dZ bs M.now)::omap .string fb (dZ bs M.fast)::aC 133 3 wv (M.waits.flatMap (nX bs))::G::F) /\
   ∀ (w':World) (f':bK),Sat w0 w' (kZ (bs.getD i 0) f'::oH m M fb nb wv::omap .string nb (dZ bs M.now)::omap .string fb (dZ bs M.fast)::aC 133 3 wv (M.waits.flatMap (nX bs))::G::F)->Sat w0 w' (aJ m (M.jf i f')::F):=by
 obtain ⟨G,h1,h2⟩:=OZ bs M.files i hl hi;refine ⟨G,?_,λw' f' h'=>?_⟩
 ·have h3:=h.sel 5 [2,0,1,3,4] rfl rfl;have h4:Sat w0 w (oM bs M.files::oH m M fb nb wv::omap .string nb (dZ bs M.now)::omap .string fb (dZ bs M.fast)::aC 133 3 wv (M.waits.flatMap (nX bs))::F):=h3;rw [h1]at h4;exact (Sat.star.1 h4).sel 6 [0,2,3,4,5,1] rfl rfl
 ·refine aJ.shut (bs:=bs) (fb:=fb) (nb:=nb) (wv:=wv) (by simp [ay.jf,hl]) ?_;have h4:Sat w0 w' (kZ (bs.getD i 0) f'::G::oH m M fb nb wv::omap .string nb (dZ bs M.now)::omap .string fb (dZ bs M.fast)::aC 133 3 wv (M.waits.flatMap (nX bs))::F):=h'.sel 6 [0,5,1,2,3,4] rfl rfl;have h5:=Sat.star.2 h4;rw [<-h2]at h5;exact h5.sel 5 [1,2,0,3,4] rfl rfl
theorem LJ (hM:M.Ok K) (h:Sat w0 w (aJ m M::F)) (s:ByteArray) :
  Calls prog 110 #[ptr m,.string s] w (aP λv w'=>v=errno (M.sync s).2/\Sat w0 w' (aJ m (M.sync s).1::F)):=by
 obtain ⟨bs,fb,nb,wv,hl,hR⟩:=aJ.open h;cases ho:M.off
 ·cases hn:bU M.now s with
  |none=>
   have hf:=Ac (s:=s) hR ho hn;have bH:Hid (M.sync s=(M,9)):=by show _=_;simp [ay.sync,ho,hn]
   clear ho hn;go_enter func110,ntmps110;go_wp2_with (go_at_call 90;refine hf.mono ?_;rintro e w1 ⟨v,rfl,rfl,rfl⟩);go_ret;exact ⟨errno 9,rfl,by rw [bH.o],by rw [bH.o];exact h⟩
  |some i=>
   have hf:=Ae (s:=s) hR ho hn;have hid:i<M.files.length:=hM.ig.ids (s,i) (jD hn);have hst:=Bc hR hM.left;cases hstep:M.step.2
   ·rw [hstep]at hst;have bH:Hid (M.sync s=(M.step.1,12)):=by show _=_;simp [ay.sync,ho,hn,hstep]
    clear ho hn hstep;go_enter func110,ntmps110;go_wp2_with (first|(go_at_call 90;refine hf.mono ?_;rintro e w1 ⟨v,rfl,rfl,rfl⟩)|(go_at_call 128;refine hst.mono ?_;rintro e w1 ⟨v,rfl,rfl,hS1⟩));go_ret;refine ⟨errno 12,rfl,by rw [bH.o],?_⟩;rw [bH.o];exact aJ.shut (bs:=bs) (fb:=fb) (nb:=nb) (wv:=wv) yY0 (uD hS1)
   ·rw [hstep]at hst;have bH:Hid (M.sync s=(M.step.1.jf i (M.file i).sync,0)):=by show _=_;simp [ay.sync,ho,hn,hstep]
    clear ho hn hstep;have hl':bs.length=M.step.1.files.length:=by rw [M.jZ.2.2.2.1];exact hl
    have PN:i<M.step.1.files.length:=by rw [M.jZ.2.2.2.1];exact hid
    have hfe:M.step.1.file i=M.file i:=by unfold ay.file;rw [M.jZ.2.2.2.1]
    have hnl:=(hM.file i).vG;have zy:=uQ hl';have Nl:=uQ hfe;clear hl' hfe;generalize hq:bs.getD i 0=q at hf;have Hq:=uQ hq;clear hq;go_enter func110,ntmps110;go_wp2_with (first|(go_at_call 90;refine hf.mono ?_;rintro e w1 ⟨v,rfl,rfl,rfl⟩)|(go_at_call 128;fail));refine hst.mono ?_;rintro e w1 ⟨v,rfl,rfl,hS1⟩;obtain ⟨G,h1,h2⟩:=abE zy.o PN (uD hS1);rw [Nl.o,Hq.o]at h1;rw [Hq.o]at h2;obtain ⟨fv,nv,wv',ws,hws,h3⟩:=kZ.open h1;have H2:=uQ h2;clear h2 hS1 h1 hws;have h4:Sat w0 w1 (Cc q fv nv wv'::bQ nv (M.file i).now::_):=h3.sel 3 [0,2] rfl rfl;have c1:=h4.cellAt 1 _ rfl;obtain ⟨na,nn,nc,rfl⟩:=OA h4.bf;have hcl:=wI h4 h4.bf.rd oQ;go_wp2_with (go_at_call 91;go_must (refine hcl.mono ?_);rintro e w2 ⟨v2,rfl,hS2,a2,n2,k2,rfl⟩;have g0:=hS2.bf.pY 0;have g2:=hS2.bf.pY 2;have d0:=hS2.bf.cellAt 0 _ rfl;have d2:=hS2.bf.cellAt 2 _ rfl);go_ret
    refine ⟨errno 0,rfl,by rw [bH.o],?_⟩;rw [bH.o];refine H2.o _ _ ?_;have h5:=(hS2.bf.set 0 (.slice a2 n2 k2)).set 2 (.slice none 0 0);refine kZ.shut (fv:= .slice a2 n2 k2) (nv:= .slice na nn nc) (wv:= .slice none 0 0) (ws:=[]) rfl ?_;have h6:Sat w0 _ (aC 199 3 (.slice none 0 0) []::uT []::_::_::_::aC _ _ _ _::uT _::_):=Sat.gB.2 (Sat.emp.2 h5);exact h6.sel 7 [2,3,4,0,1] rfl rfl
 ·have hf:=Ad (s:=s) hR ho;have bH:Hid (M.sync s=(M,12)):=by show _=_;simp [ay.sync,ho]
  clear ho;go_enter func110,ntmps110;go_wp2_with (go_at_call 90;refine hf.mono ?_;rintro e w1 ⟨v,rfl,rfl,rfl⟩);go_ret;exact ⟨errno 12,rfl,by rw [bH.o],by rw [bH.o];exact h⟩
theorem Gn {lb:Bs} (hr:Ro w0 F (bF 1 bv (aA lb))){A:aG} (h:Sat w0 w (A::F)):∃ a n c,bv=.slice a n c/\n=lb.length:=by
 obtain ⟨a,n,c,rfl,hl,_⟩:=hr w h.drop;rw [aX,aes]at hl;exact ⟨a,n,c,rfl,hl.symm⟩
theorem IZ (hM:M.Ok K) (hK:K<=1099511627776) (h:Sat w0 w (aJ m M::F)) (s:ByteArray) (lb:Bs) (hr:Ro w0 F (bF 1 bv (aA lb))) :
  Calls prog 141 #[ptr m,.string s,bv] w (aP λv w'=>v=errno (M.append s lb).2/\Sat w0 w' (aJ m (M.append s lb).1::F)):=by
 obtain ⟨bs,fb,nb,wv,hl,hR⟩:=aJ.open h;cases ho:M.off
 ·cases hn:bU M.now s with
  |none=>
   obtain ⟨ba,bn,bc,rfl,hbn⟩:=Gn hr h;clear hbn;have hf:=Ac (s:=s) hR ho hn;have bH:Hid (M.append s lb=(M,9)):=by show _=_;simp [ay.append,ho,hn]
   clear ho hn hr;go_enter func141,ntmps141;go_wp2_with (go_at_call 90;refine hf.mono ?_;rintro e w1 ⟨v,rfl,rfl,rfl⟩);go_ret;exact ⟨errno 9,rfl,by rw [bH.o],by rw [bH.o];exact h⟩
  |some i=>
   have hf:=Ae (s:=s) hR ho hn;have hid:i<M.files.length:=hM.ig.ids (s,i) (jD hn);obtain ⟨ba,bn,bc,rfl,hbn⟩:=Gn hr h;have hu:=aod (w:=w.drew) (m:=m) (M:=M) (fb:=fb) (nb:=nb) (wv:=wv) (bs:=bs) hR.drew hl hM.ig.ids (by have:=hM.adn;omega);have hut:M.uJ=M.used:=by simp [ay.uJ,ho]
   rw [hut]at hu;have hu2:=hM.adn;have hr2:=hM.room;have c0:=hR.cellAt 0 _ rfl;have Hr:=uQ hr;clear hr;clear hut;by_cases hfull:(M.room:Int)-M.used<lb.length
   ·have bH:Hid (M.append s lb=(M,11)):=by show _=_;simp [ay.append,ho,hn,hfull]
    clear ho hn;subst hbn;have hwr:IntKind.i64.wrap ((M.room:Int)-(M.used:Int))=(M.room:Int)-(M.used:Int):=adr _ oQ;go_enter func141,ntmps141;go_wp2_with (go_at_call 90;refine hf.mono ?_;rintro e w1 ⟨v,rfl,rfl,rfl⟩);refine dN [8,9] (λw'=>w'.cell? ⟨m,0,none⟩=some (.int .i64 M.room)) au ?_;have hG:=c0;refine yA0 0 ?_;refine yA0 1 ?_;refine yA0 2 ?_;refine yA0 3 ?_;refine yA0 4 ?_;refine yB0 5 ?_;refine yA0 6 ?_;refine qw (i:=7) rfl au (λK hK=>?_);go_simp;refine hu.mono ?_;rintro e w1 ⟨v,rfl,rfl,yC⟩;refine hK _ _ (.inr (.inl (yC.cellAt 0 _ rfl))) ?_;clear hK K hG;refine yA0 8 ?_;refine yA0 9 ?_;refine dH au ?_;clear hwr;go_wp2;go_ret;exact ⟨errno 11,rfl,by rw [bH.o],by rw [bH.o];exact aJ.shut hl yC⟩
   have apg:decide ((M.room:Int)-M.used<lb.length)=false:=by rw [ae1];exact hfull
   cases hstep:M.step.2
   ·have bH:Hid (M.append s lb=(M.step.1,12)):=by show _=_;simp [ay.append,ho,hn,hfull,hstep]
    have Hs:=uQ hstep;clear ho hn hstep hfull;subst hbn;have hwr:IntKind.i64.wrap ((M.room:Int)-(M.used:Int))=(M.room:Int)-(M.used:Int):=adr _ oQ;go_enter func141,ntmps141;go_wp2_with (go_at_call 90;refine hf.mono ?_;rintro e w1 ⟨v,rfl,rfl,rfl⟩);refine dN [8,9] (λw'=>w'.cell? ⟨m,0,none⟩=some (.int .i64 M.room)) au ?_;have hG:=c0;refine yA0 0 ?_;refine yA0 1 ?_;refine yA0 2 ?_;refine yA0 3 ?_;refine yA0 4 ?_;refine yB0 5 ?_;refine yA0 6 ?_;refine qw (i:=7) rfl au (λK hK=>?_);go_simp;refine hu.mono ?_;rintro e w1 ⟨v,rfl,rfl,yC⟩;refine hK _ _ (.inr (.inl (yC.cellAt 0 _ rfl))) ?_;clear hK K hG;refine yA0 8 ?_;refine yA0 9 ?_;refine dH au ?_;clear hwr;have hst:=Bc yC hM.left;rw [Hs.o]at hst;go_wp2_with (go_at_call 128;refine hst.mono ?_;rintro e w2 ⟨v,rfl,rfl,hS1⟩);go_ret;refine ⟨errno 12,rfl,by rw [bH.o],?_⟩;rw [bH.o]
    exact aJ.shut (bs:=bs) (fb:=fb) (nb:=nb) (wv:=wv) yY0 (uD hS1)
   ·have bH:Hid (M.append s lb=(M.step.1.jf i ((M.file i).do ⟨false,0,lb⟩),0)):=by show _=_;simp [ay.append,ho,hn,hfull,hstep]
    have Hs:=uQ hstep;have hfe:M.step.1.file i=M.file i:=by unfold ay.file;rw [M.jZ.2.2.2.1]
    have Zn:=hM.file i;have hbig:lb.length<=16777216:=by omega
    clear ho hn hstep hfull;subst hbn;generalize hq:bs.getD i 0=q at hf;have Hq:=uQ hq;clear hq;have Nl:=uQ hfe;clear hfe;have dB:=uQ Zn;clear Zn;have hwr:IntKind.i64.wrap ((M.room:Int)-(M.used:Int))=(M.room:Int)-(M.used:Int):=adr _ oQ;go_enter func141,ntmps141;go_wp2_with (go_at_call 90;refine hf.mono ?_;rintro e w1 ⟨v,rfl,rfl,rfl⟩);refine dN [8,9] (λw'=>w'.cell? ⟨m,0,none⟩=some (.int .i64 M.room)) au ?_;have hG:=c0;refine yA0 0 ?_;refine yA0 1 ?_;refine yA0 2 ?_;refine yA0 3 ?_;refine yA0 4 ?_;refine yB0 5 ?_;refine yA0 6 ?_;refine qw (i:=7) rfl au (λK hK=>?_);go_simp;refine hu.mono ?_;rintro e w1 ⟨v,rfl,rfl,yC⟩;refine hK _ _ (.inr (.inl (yC.cellAt 0 _ rfl))) ?_;clear hK K hG;refine yA0 8 ?_;refine yA0 9 ?_;refine dH au ?_;clear hwr;have hst:=Bc yC hM.left;rw [Hs.o]at hst;go_wp2_with (go_at_call 128;fail);refine hst.mono ?_
    rintro e w2 ⟨v,rfl,rfl,hS1⟩;have hl':bs.length=M.step.1.files.length:=by rw [M.jZ.2.2.2.1];exact hl
    have PN:i<M.step.1.files.length:=by rw [M.jZ.2.2.2.1];exact hid
    obtain ⟨G,h1,h2⟩:=abE hl' PN (uD hS1);rw [Nl.o,Hq.o]at h1;rw [Hq.o]at h2;have hrd:=Hr.o w2 (h1.sel 6 [] rfl rfl);have hcl:=wI h1 hrd oQ;go_wp2_with (go_at_call 91;fail);refine hcl.mono ?_;rintro e w3 ⟨v2,rfl,hS2,a2,n2,k2,rfl⟩;obtain ⟨fv,nv,wv',ws,hws,h3⟩:=kZ.open hS2.bf;have hdo:=agK (bv:= .slice a2 n2 k2) ⟨false,0,lb⟩ (h3.sel 6 [0,1,2,3,4,5] rfl rfl) hws ⟨(λh=>by cases h),λ_=>by have:=dB.o.vG;simp only;omega⟩ (adt dB.o.budget hK);clear h3 hws hst hcl hrd h1 hu;go_wp2_with (go_at_call 177;go_must (refine hdo.mono ?_);rintro e w4 ⟨v4,rfl,hS4⟩);go_ret;refine ⟨errno 0,rfl,by rw [bH.o],?_⟩;rw [bH.o];exact h2 _ _ hS4
 ·obtain ⟨ba,bn,bc,rfl,hbn⟩:=Gn hr h;clear hbn;have hf:=Ad (s:=s) hR ho;have bH:Hid (M.append s lb=(M,12)):=by show _=_;simp [ay.append,ho]
  clear ho hr;go_enter func141,ntmps141;go_wp2_with (go_at_call 90;refine hf.mono ?_;rintro e w1 ⟨v,rfl,rfl,rfl⟩);go_ret;exact ⟨errno 12,rfl,by rw [bH.o],by rw [bH.o];exact h⟩
theorem TQ (hM:M.Ok K) (h:Sat w0 w (aJ m M::F)) :
  Calls prog 76 #[ptr m] w (aP λv w'=>v=errno M.dR.2/\Sat w0 w' (aJ m M.dR.1::F)):=by
 obtain ⟨bs,fb,nb,wv,hl,hR⟩:=aJ.open h;have hd:=zY hR;cases ho:M.off
 ·rw [ho]at hd;have hst:=Bc hR hM.left;cases hstep:M.step.2
  ·rw [hstep]at hst;have bH:Hid (M.dR=(M.step.1,12)):=by show _=_;simp [ay.dR,ho,hstep]
   clear ho hstep;go_enter func76,ntmps76;go_wp2_with (first|(go_at_call 63;refine hd.mono ?_;rintro e w1 ⟨v,rfl,rfl,rfl⟩)|(go_at_call 128;refine hst.mono ?_;rintro e w1 ⟨v,rfl,rfl,hS1⟩));go_ret;refine ⟨errno 12,rfl,by rw [bH.o],?_⟩;rw [bH.o];exact aJ.shut (bs:=bs) (fb:=fb) (nb:=nb) (wv:=wv) yY0 (uD hS1)
  ·rw [hstep]at hst;have bH:Hid (M.dR=({ M.step.1 with fast:=M.now,waits:=[] },0)):=by show _=_;simp [ay.dR,ho,hstep]
   clear ho hstep;go_enter func76,ntmps76;go_wp2_with (first|(go_at_call 63;refine hd.mono ?_;rintro e w1 ⟨v,rfl,rfl,rfl⟩)|(go_at_call 128;fail));refine hst.mono ?_;rintro e w1 ⟨v,rfl,rfl,hS1⟩;have c2:=hS1.cellAt 2 _ rfl;have hcp:=agk hS1.bf;go_wp2_with (go_at_call 65;go_must (refine hcp.mono ?_);rintro e w2 ⟨v,rfl,b',rfl,hS2⟩;have d1:=hS2.eH.cellAt 1 _ rfl;have d3:=hS2.eH.cellAt 3 _ rfl;have g1:=hS2.eH.pY 1;have g3:=hS2.eH.pY 3);go_ret;refine ⟨errno 0,rfl,by rw [bH.o],?_⟩;rw [bH.o];have h5:=(hS2.eH.set 1 (.map (some b'))).set 3 (.slice none 0 0);obtain ⟨e1,e2,e3,e4,e5⟩:=M.jZ;refine aJ.shut (bs:=bs) (fb:=b') (nb:=nb) (wv:= .slice none 0 0) (by simp only [e4];exact hl) ?_;have h6:Sat w0 _ (aC 133 3 (.slice none 0 0) []::_::_::_::_::_::aC _ _ _ _::F):=Sat.gB.2 h5;unfold wu;simp only [e3,e4];exact h6.sel 7 [1,3,4,2,0] rfl rfl
 ·rw [ho]at hd;have bH:Hid (M.dR=(M,12)):=by show _=_;simp [ay.dR,ho]
  clear ho;go_enter func76,ntmps76;go_wp2_with (go_at_call 63;refine hd.mono ?_;rintro e w1 ⟨v,rfl,rfl,rfl⟩);go_ret;exact ⟨errno 12,rfl,by rw [bH.o],by rw [bH.o];exact h⟩
def ints (l:List Int):List Value:=l.map (.int .i64)
def qK (x:Int):Prop:= -9223372036854775808<=x/\x<=9223372036854775807
def lY (v:Value):Prop:=∃ a n c,v=.slice a n c/\n<=c/\c<=9223372036854775807
theorem Du {a:Option Addr}{n c:Nat}{xs:List Value} (h:bF 1 (.slice a n c) xs w){i:Nat}{x:Value} (hi:xs[i]?=some x) :
  ∃ bk off,a=some ⟨bk,off,none⟩/\w.cell? ⟨bk,off+i,none⟩=some x:=by
 obtain ⟨a',n',c',he,hl,hx⟩:=h;cases he;obtain ⟨b,rfl,hc⟩:=hx i x hi;have hlt:i<xs.length:=(abm.1 hi).1;obtain ⟨y,hy⟩:∃ y,xs[0]?=some y:=⟨xs[0]'oQ,aay _⟩;obtain ⟨b',hb',hc0⟩:=hx 0 y hy;cases hb';obtain ⟨bk,off,spot⟩:=b;have hs:spot=none:=by simpa [Addr.add] using World.cell?_spot hc0
 subst hs;refine ⟨bk,off,rfl,?_⟩;unfold Addr.add at hc;split at hc
 ·rename_i h0;subst h0;exact hc
 ·exact hc
theorem cut_c (a:Option Addr) (n c k:Nat) (h1:n<=c) (h2:c<=9223372036854775807) (w:World) :
  Calls prog 32 #[.slice a n c,.int .i64 k] w (aP λv w'=>v=.slice a (min n k) c/\w=w'):=by
 by_cases hk:k<n
 ·have hk1:(k:Int)<(n:Int):=by omega
  have hk2:(k:Int)<=(c:Int):=by omega
  have e:=uQ (show min n k=k by omega);go_enter func32,ntmps32;go_wp2;go_ret;exact ⟨.slice a k c,rfl,by rw [e.o],rfl⟩
 ·have hk1:¬ (k:Int)<(n:Int):=by omega
  have e:=uQ (show min n k=n by omega);go_enter func32,ntmps32;go_wp2;go_ret;exact ⟨.slice a n c,rfl,by rw [e.o],rfl⟩
theorem akl (a:Option Addr) (n c k:Nat) (h1:n<=c) (h2:c<=9223372036854775807) (w:World) :
  Calls prog 27 #[.slice a n c,.int .i64 k] w (aP λv w'=>v=.slice a (min n k) c/\w=w'):=by
 by_cases hk:k<n
 ·have hk1:(k:Int)<(n:Int):=by omega
  have hk2:(k:Int)<=(c:Int):=by omega
  have e:=uQ (show min n k=k by omega);go_enter func27,ntmps27;go_wp2;go_ret;exact ⟨.slice a k c,rfl,by rw [e.o],rfl⟩
 ·have hk1:¬ (k:Int)<(n:Int):=by omega
  have e:=uQ (show min n k=n by omega);go_enter func27,ntmps27;go_wp2;go_ret;exact ⟨.slice a n c,rfl,by rw [e.o],rfl⟩
theorem amI (la:Bs) (ha:Ro w0 F (bF 1 av (aA la))) (hb:Ro w0 F (bF 1 bv (aA la))) (h:Sat w0 w F) (hlen:la.length<=9223372036854775807) :
  Calls prog 26 #[av,bv] w (aP λv w'=>v=.bool true/\Sat w0 w' F):=by
 obtain ⟨aa,an,ac,rfl,hal,_⟩:=id (ha w h);obtain ⟨ba,bn,bc,rfl,hbl,_⟩:=id (hb w h);rw [aX,aes]at hal hbl;subst hal;obtain rfl:=hbl.symm;have Ha:=uQ ha;have Hb:=uQ hb;clear ha hb;go_enter func26,ntmps26;go_wp2
 go_loopg [5] la.length (λg iq wr=>∃ i:Nat,g=la.length-i/\i<=la.length/\iq=.int .i64 i/\Sat w0 wr F)
 case atStart=>exact ⟨0,rfl,aea _,rfl,h⟩
 case round=>
  obtain ⟨i,rfl,hiN,rfl,hS⟩:=hrel;by_cases hi:i<la.length
  ·have hx:(aA la)[i]?=some (.int .u8 (la[i]'hi).toNat):=by unfold aA;simp [hi]
   obtain ⟨bk,off,rfl,c1⟩:=Du (Ha.o _ hS) hx;obtain ⟨bk2,off2,rfl,c2⟩:=Du (Hb.o _ hS) hx;generalize ((la[i]'hi).toNat:Int)=X at c1 c2;clear hx;have hic:(i:Int)<(la.length:Int):=by omega
   have hS1:=hS.drew;go_wp2;refine dN [8] (λw'=>w'.cell? ⟨bk,off+i,none⟩=some (.int .u8 X)/\w'.cell? ⟨bk2,off2+i,none⟩=some (.int .u8 X)) au ?_;have hG:_/\_:=And.intro c1 c2;refine yA0 0 ?_;refine yA0 1 ?_;refine yA0 2 ?_;refine yB0 3 ?_;refine yA0 4 ?_;refine yA0 5 ?_;refine yA0 6 ?_;refine yB0 7 ?_;refine yA0 8 ?_;refine dH au ?_;clear hG;simp only [kP]
   go_frame
   go_wp2
   go_roundg (la.length-(i+1))
   case measure=>omega
   case rel=>exact ⟨i+1,rfl,by omega,by go_num,hS1⟩
  ·obtain rfl:i=la.length:=by omega
   have hic:¬ (la.length:Int)<(la.length:Int):=by omega
   go_wp2;go_ret;exact ⟨.bool true,rfl,rfl,hS⟩
def within (x lo hi:Int):Int:=if x<lo then lo else if hi<x then hi else x
theorem L9 (x lo hi:Int) (w:World):Calls prog 9 #[.int .i64 x,.int .i64 lo,.int .i64 hi] w (aP λv w'=>v=.int .i64 (within x lo hi)/\w=w'):=by
 by_cases h1:x<lo
 ·have e:=uQ (show within x lo hi=lo by simp [within,h1]);go_enter func9,ntmps9;go_wp2;go_ret;exact ⟨.int .i64 lo,rfl,by rw [e.o],rfl⟩
 ·by_cases h2:hi<x
  ·have e:=uQ (show within x lo hi=hi by simp [within,h1,h2]);go_enter func9,ntmps9;go_wp2;go_ret;exact ⟨.int .i64 hi,rfl,by rw [e.o],rfl⟩
  ·have e:=uQ (show within x lo hi=x by simp [within,h1,h2]);go_enter func9,ntmps9;go_wp2;go_ret;exact ⟨.int .i64 x,rfl,by rw [e.o],rfl⟩
theorem agl (h:Sat w0 w F) (l:Bs) (hr:bF 1 bv (aA l) w) (hl:l.length<=1099511627776) :
  Calls prog 31 #[bv] w (aP λv w'=>Sat w0 w' (bQ v l::F)/\∃ a n c,v=.slice a n c):=by
 obtain ⟨i,hi,hz0,hz1,hz2⟩:=vC;obtain ⟨a,n,c,rfl,hn,_⟩:=id hr;rw [aX,aes]at hn;have h0:Sat w0 w (aC 5 1 (.slice none 0 0) []::F):=Sat.gB.2 h;have h63:([]:List Value).length+(aA l).length<=maxLen:=by rw [aX];unfold maxLen;simp;omega
 have hby:(([]:List Value).length+(aA l).length)*i.bytes<=140737488355328:=by rw [aX,hz2];simp;omega
 have Hn:=uQ hn;clear hn;go_enter func31,ntmps31;go_wp2_with (at_builtin;go_must (refine zo (w0:=w0) ah _ _ _ ah _ i _ underlying39 hi hz0 hz1 ah oQ ah ah (wG _) h0 hr h63 hby ?_);intro v2 w2 hS2 hne);obtain ⟨a2,n2,c2,rfl,_⟩:=id hS2.rd;go_wp2;go_ret;exact ⟨_,rfl,hS2,_,_,_,rfl⟩
end Go.Proofs.Y
namespace Go.aj
abbrev Bs:=List UInt8
def half:List Nat:=[0,498536548,997073096,651767980,1994146192,1802195444,1303535960,1342533948,3988292384,4027552580,3604390888,3412177804,2607071920,2262029012,2685067896,3183342108]
def Ci (x:Nat):Nat:=(x/16) ^^^ half.getD (x%16) 0
def uU (x:Nat) (c:UInt8):Nat:=Ci (Ci (x ^^^ c.toNat))
def EM (s:Nat) (b:Bs):Nat:=4294967295-b.foldl uU (4294967295-s)
def crc (b:Bs):Nat:=EM 0 b
theorem JF:∀ i,half.getD i 0<4294967296:=by
 intro i;rw [adT];cases h:half[i]? with
 |none=>simp
 |some x=>
  have:x∈half:=abA h;have h2:∀ y∈half,y<4294967296:=by decide
  exact h2 x this
theorem Bz {a b:Nat} (ha:a<4294967296) (hb:b<4294967296):a ^^^ b<4294967296:=Nat.xor_lt_two_pow (n:=32) ha hb
theorem Yi {x:Nat} (h:x<4294967296):Ci x<4294967296:=Bz oQ (JF _)
theorem agp {x:Nat} (h:x<4294967296) (c:UInt8):uU x c<4294967296:=Yi (Yi (Bz h (by have:=c.toNat_lt;omega)))
theorem Yl:∀ (b:Bs) (x:Nat),x<4294967296->b.foldl uU x<4294967296
 |[],_,h=>h
 |c::b,x,h=>Yl b _ (agp h c)
theorem OL (b:Bs):crc b<4294967296:=by unfold crc EM;omega
def le (x:Nat):Nat->Bs
 |0=>[]
 |n+1=>UInt8.ofNat (x%256)::le (x/256) n
def num:Bs->Nat
 |[]=>0
 |c::b=>c.toNat+256*num b
theorem jk (x n:Nat):(le x n).length=n:=by
 induction n generalizing x with
 |zero=>rfl
 |succ n ih=>simp [le,ih]
theorem AB (n:Nat):∀ x,x<256^n->num (le x n)=x:=by
 induction n with
 |zero=>intro x h;simp at h;subst h;rfl
 |succ n ih=>
  intro x h;show (UInt8.ofNat (x%256)).toNat+256*num (le (x/256) n)=x;rw [ih (x/256) (by rw [Nat.div_lt_iff_lt_mul oQ];rw [Nat.pow_succ]at h;exact h),ao6];omega
theorem yJ:∀ b:Bs,num b<256^b.length
 |[]=>by simp [num]
 |c::b=>by
  have h1:=yJ b;have h2:=c.toNat_lt;show c.toNat+256*num b<256^(b.length+1);rw [Nat.pow_succ];omega
structure aI where
 tag:Int
 key:Bs
 data:Bs
def zero32:Bs:=List.replicate 32 0
def check (x:aI):Int:=
 if x.tag=0 then (if 16384<x.data.length then 5 else 0)
 else if x.tag=2 then (if x.key≠zero32 then 4 else if 0<x.data.length then 4 else if 16384<x.data.length then 5 else 0)
 else if x.tag=1 then (if 0<x.data.length then 4 else if 16384<x.data.length then 5 else 0)
 else 4
def size (x:aI):Nat:=if check x≠0 then 0 else if x.tag=2 then 9 else 41+x.data.length
def body (x:aI):Bs:=le (size x) 4++[UInt8.ofNat x.tag.toNat]++(if x.tag=2 then [] else x.key)++x.data
def encode (x:aI):Bs×Int:=if check x≠0 then ([],check x) else (le (crc (body x)) 4++body x,0)
def zeroE:aI:=⟨0,zero32,[]⟩
def fits (tag:UInt8) (n:Nat):Bool:=
 if tag=0 then decide (41<=n/\n<=16425) else if tag=1 then decide (n=41) else if tag=2 then decide (n=9) else false
def read (b:Bs):aI×Nat×Int:=
 if b.length<9 then (zeroE,0,3)
 else
  let n:=num ((b.drop 4).take 4)
  if fits (b.getD 8 0) n=false then (zeroE,0,4)
  else if b.length<n then (zeroE,0,3)
  else if crc ((b.take n).drop 4)≠num (b.take 4) then (zeroE,0,13)
  else if 41<=n then (⟨(b.getD 8 0).toNat,(b.drop 9).take 32,(b.take n).drop 41⟩,n,0)
  else (⟨(b.getD 8 0).toNat,zero32,[]⟩,n,0)
end Go.aj
namespace Go.Proofs.Y
open Go.ay
def Half (w:World):Prop:=∀ i,i<16->w.cell? ⟨0,i,none⟩=some (.int .u32 (aj.half.getD i 0:Nat))
theorem aaO (s:Nat) (hs:s<4294967296):bits .xor .u32 IntKind.u32.max (s:Int)=((4294967295-s:Nat):Int):=by
 have h1:IntKind.u32.max=((4294967295:Nat):Int):=by decide
 rw [h1,u32_xor_nat _ _ oQ hs]
 congr 1
 have h2:(4294967295 ^^^ s)=(BitVec.allOnes 32 ^^^ BitVec.ofNat 32 s).toNat:=by
  rw [BitVec.toNat_xor,BitVec.toNat_allOnes,BitVec.toNat_ofNat,ape hs]
 rw [h2,BitVec.allOnes_xor,BitVec.toNat_not,BitVec.toNat_ofNat,ape hs]
theorem VY (y:Nat) (hy:y<4294967296):bits .and .u32 (y:Int) 15=((y%16:Nat):Int):=by
 have:=u32_and_nat y 15 hy oQ;rw [nat_mask4]at this;exact this
theorem adH (y h:Nat) (hy:y<4294967296) (hh:h<4294967296):bits .xor .u32 ((y:Int)/16) (h:Int)=((y/16 ^^^ h:Nat):Int):=by
 have:=u32_xor_nat (y/16) h oQ hh;rw [<-this]
 rfl
theorem agn (s:Nat) (hs:s<4294967296) (l:Bs) (hH:Ro w0 F Half) (hr:Ro w0 F (bF 1 bv (aA l))) (h:Sat w0 w F) (hl:l.length<=1099511627776) :
  Calls prog 145 #[.int .u32 s,bv] w (aP λv w'=>v=.int .u32 (aj.EM s l:Nat)/\w=w'):=by
 obtain ⟨a,n,c,rfl,hn,_⟩:=id (hr w h);rw [aX,aes]at hn;subst hn;have hnot:=aaO s hs;obtain ⟨t0,ht0⟩:∃ t0,t0=4294967295-s:=⟨_,rfl⟩;rw [<-ht0]at hnot;have ht:t0<4294967296:=by omega
 have Hr:=uQ hr;have hHw:=uQ (hH w h);have Hl:=uQ hl;have Ht:=uQ ht;have EC:=uQ ht0;clear hr hH hl hs ht ht0;go_enter func145,ntmps145;go_wp2_with fail;clear hnot
 go_loopg [5,12] l.length (λg xv iq wr=>∃ (i:Nat),g=l.length-i/\i<=l.length/\iq=.int .i64 i/\xv=.int .u32 ((l.take i).foldl aj.uU t0:Nat)/\wr=w)
 case atStart=>exact ⟨0,rfl,aea _,rfl,rfl,rfl⟩
 case round=>
  obtain ⟨i,rfl,hi,rfl,rfl,rfl⟩:=hrel;have FD:(l.take i).foldl aj.uU t0<4294967296:=aj.Yl _ _ Ht.o;by_cases hi':i<l.length
  ·have hb:(aA l)[i]?=some (.int .u8 (l[i]'hi').toNat):=by unfold aA;simp [hi']
   obtain ⟨bk,off,rfl,c1⟩:=Du (Hr.o _ h) hb;have hnext:(l.take (i+1)).foldl aj.uU t0=aj.Ci (aj.Ci ((l.take i).foldl aj.uU t0 ^^^ (l[i]'hi').toNat)):=by
    rw [ahI hi',apv];rfl
   have hic:(i:Int)<(l.length:Int):=by omega
   have hwi:IntKind.i64.wrap ((i:Int)+1)=(i:Int)+1:=adr _ (by have h1:=Hl.o;omega);have hcb:=(l[i]'hi').toNat_lt;have Ep:=uQ hnext;clear hb hnext;generalize (l[i]'hi').toNat=cb at *
   generalize (l.take i).foldl aj.uU t0=x at *
   have e1:=u32_xor_nat x cb FD oQ;have hy1:x ^^^ cb<4294967296:=aj.Bz FD oQ;unfold aj.Ci at Ep;generalize x ^^^ cb=y1 at *
   have e2:=VY y1 hy1;have hz1:y1%16<16:=ao0 _ oQ;have g1:=hHw.o (y1%16) hz1;have e3:=adH y1 _ hy1 (aj.JF (y1%16));have hy2:y1/16 ^^^ aj.half.getD (y1%16) 0<4294967296:=aj.Bz oQ (aj.JF _);generalize aj.half.getD (y1%16) 0=h1 at *
   generalize y1%16=z1 at *
   generalize y1/16 ^^^ h1=y2 at *
   have e4:=VY y2 hy2;have hz2:y2%16<16:=ao0 _ oQ;have g2:=hHw.o (y2%16) hz2;have e5:=adH y2 _ hy2 (aj.JF (y2%16));generalize aj.half.getD (y2%16) 0=h2 at *
   generalize y2%16=z2 at *
   generalize y2/16 ^^^ h2=y3 at *
   have hcm:(cb:Int)%4294967296=(cb:Int):=by omega
   have apq:(z1:Int)<16:=by omega
   have apr:(z2:Int)<16:=by omega
   clear FD hy1 hy2 hcb;go_wp2
   go_roundg (l.length-(i+1))
   case measure=>omega
   case rel=>exact ⟨i+1,rfl,aec hi',by first|rfl|go_num,by rw [Ep.o],rfl⟩
  ·obtain rfl:i=l.length:=by omega
   have hic:¬ (l.length:Int)<(l.length:Int):=by omega
   rw [aeo]at *
   have hn2:=aaO _ FD;have hfin:aj.EM s l=4294967295-l.foldl aj.uU t0:=by unfold aj.EM;rw [EC.o]
   rw [<-hfin]at hn2;generalize l.foldl aj.uU t0=x at *
   clear hi hi' FD hfin;go_wp2;go_ret;exact ⟨_,rfl,rfl,rfl⟩
theorem OJ (l:Bs) (hH:Ro w0 F Half) (hr:Ro w0 F (bF 1 bv (aA l))) (h:Sat w0 w F) (hl:l.length<=1099511627776) :
  Calls prog 95 #[bv] w (aP λv w'=>v=.int .u32 (aj.crc l:Nat)/\w=w'):=by
 have ha:=agn 0 oQ l hH hr h hl;have hcast:((0:Nat):Int)=0:=rfl;rw [hcast]at ha;clear hcast;obtain ⟨a,n,c,rfl,hn,_⟩:=id (hr w h);go_enter func95,ntmps95;go_wp2_with fail;refine ha.mono ?_;rintro e w1 ⟨v,rfl,rfl,rfl⟩;clear ha;go_wp2;go_ret;exact ⟨_,rfl,rfl,rfl⟩
theorem aad (hM:M.Ok K) (hK:K<=1099511627776) (hl:bs.length=M.files.length) (x:jc) (h:Sat w0 w (wu m M bs fb nb wv++F)) :
  Calls prog 129 #[ptr m,.agg #[.string x.fr,.string x.to,oU bs x]] w (aP λ_ w'=>Sat w0 w' (aJ m (M.link x)::F)):=by
 refine (aac x (h.sel 5 [0,1,4,2,3] rfl rfl) (adt hM.budget hK)).mono ?_;rintro e w1 ⟨v,rfl,wv',hS⟩;refine ⟨v,rfl,aJ.shut (bs:=bs) (fb:=fb) (nb:=nb) (wv:=wv') (by simpa [ay.link] using hl) ?_⟩;exact hS.sel 5 [0,1,3,4,2] rfl rfl
theorem Dv (hM:M.Ok K) (hK:K<=1099511627776) (h:Sat w0 w (aJ m M::F)) (s:ByteArray) :
  Calls prog 74 #[ptr m,.string s] w (aP λv w'=>v=errno (M.remove s).2/\Sat w0 w' (aJ m (M.remove s).1::F)):=by
 obtain ⟨bs,fb,nb,wv,hl,hR⟩:=aJ.open h;cases ho:M.off
 ·cases hn:bU M.now s with
  |none=>
   have hf:=Ac (s:=s) hR ho hn;have bH:Hid (M.remove s=(M,9)):=by show _=_;simp [ay.remove,ho,hn]
   clear ho hn;go_enter func74,ntmps74;go_wp2_with (first|(go_at_call 90;refine hf.mono ?_;rintro e w1 ⟨v,rfl,rfl,rfl⟩));go_ret;exact ⟨errno 9,rfl,by rw [bH.o],by rw [bH.o];exact h⟩
  |some i=>
   have hf:=Ae (s:=s) hR ho hn;have hst:=Bc hR hM.left;cases hstep:M.step.2
   ·rw [hstep]at hst;have bH:Hid (M.remove s=(M.step.1,12)):=by show _=_;simp [ay.remove,ho,hn,hstep]
    clear ho hn hstep;go_enter func74,ntmps74;go_wp2_with (first|(go_at_call 90;refine hf.mono ?_;rintro e w1 ⟨v,rfl,rfl,rfl⟩)|(go_at_call 128;refine hst.mono ?_;rintro e w1 ⟨v,rfl,rfl,hS1⟩));go_ret;refine ⟨errno 12,rfl,by rw [bH.o],?_⟩;rw [bH.o];exact aJ.shut (bs:=bs) (fb:=fb) (nb:=nb) (wv:=wv) yY0 (uD hS1)
   ·rw [hstep]at hst;have bH:Hid (M.remove s=(M.step.1.link ⟨s,ByteArray.empty,0⟩,0)):=by show _=_;simp [ay.remove,ho,hn,hstep]
    have hl':bs.length=M.step.1.files.length:=by rw [M.jZ.2.2.2.1];exact hl
    have hlp:oU bs ⟨s,ByteArray.empty,0⟩=.pointer none:=by unfold oU;rw [acg rfl]
    have zy:=uQ hl';have Nz:=uQ hlp;clear ho hn hstep hl' hlp;generalize hq:bs.getD i 0=q at hf;have Hq:=uQ hq;clear hq;go_enter func74,ntmps74;go_wp2_with (first|(go_at_call 90;refine hf.mono ?_;rintro e w1 ⟨v,rfl,rfl,rfl⟩)|(go_at_call 128;fail));refine hst.mono ?_;rintro e w1 ⟨v,rfl,rfl,hS1⟩;have hlk:=aad hM.step hK zy.o ⟨s,ByteArray.empty,0⟩ (uD hS1);rw [Nz.o]at hlk;go_wp2_with (go_at_call 129;go_must (refine hlk.mono ?_);rintro e w2 ⟨v2,rfl,hS2⟩);go_ret;refine ⟨errno 0,rfl,by rw [bH.o],?_⟩;rw [bH.o];exact hS2
 ·have hf:=Ad (s:=s) hR ho;have bH:Hid (M.remove s=(M,12)):=by show _=_;simp [ay.remove,ho]
  clear ho;go_enter func74,ntmps74;go_wp2_with (first|(go_at_call 90;refine hf.mono ?_;rintro e w1 ⟨v,rfl,rfl,rfl⟩));go_ret;exact ⟨errno 12,rfl,by rw [bH.o],by rw [bH.o];exact h⟩
section
variable {W:World}{P:ay}{cv nv ov:Value}
theorem afT {l:Bs} (h:Sat w0 w (bQ v l::F)):lY v:=by
 rcases Sat.lC h with ⟨rfl,_⟩|⟨b,n',cap',cs,rfl,_,hn,_,hcm,_,_⟩
 ·exact ⟨_,0,0,rfl,abl _,by omega⟩
 ·exact ⟨_,_,_,rfl,hn,hcm⟩
theorem sF {a:Option Addr}{n c:Nat}{l:Bs} (h:Sat w0 w (bQ (.slice a n c) l::F)){i:Nat} (hi:i<l.length) (x:UInt8) :
  ∃ g,a=some ⟨g,0,none⟩/\w.cell? ⟨g,i,none⟩=some (.int .u8 (l[i]'hi).toNat)/\w.frozen? ⟨g,i,none⟩=false/\Sat w0 (w.setCell ⟨g,i,none⟩ (.int .u8 x.toNat)) (bQ (.slice a n c) (l.set i x)::F):=by
 rcases Sat.lC h with ⟨_,hx,_⟩|⟨g,n',cap',cs,he,h1,h2,h3,h4,h5,h6⟩
 ·have:(aA l).length=0:=by rw [hx];rfl
  rw [aX]at this;omega
 ·cases he;have hg:(aA l)[i]?=some (.int .u8 (l[i]'hi).toNat):=by unfold aA;simp [hi]
  refine ⟨g,rfl,h6.cellAt i _ (kY h5 hg),h6.pY i,?_⟩;have h7:=h6.set i (.int .u8 x.toNat);refine Sat.lN h7 ?_ h2 (by simpa using h3) h4 ?_
  ·rw [aX,ai3,<-aX l];exact h1
  ·rw [Array.toList_setIfInBounds,List.take_set,h5];unfold aA;rw [List.map_set]
theorem BU {l:Bs} (h:Sat w0 w (bQ v l::F)):∃ a n c,v=.slice a n c/\n<=c/\c<=9223372036854775807/\n=l.length:=by
 rcases Sat.lC h with ⟨rfl,hx,_⟩|⟨b,n',cap',cs,rfl,hl,hn,hc,hcm,_,_⟩
 ·refine ⟨_,0,0,rfl,abl _,by omega,?_⟩;have:(aA l).length=0:=by rw [hx];rfl
  rw [aX]at this;exact this.symm
 ·refine ⟨_,_,_,rfl,hn,hcm,?_⟩;rw [aX,aes]at hl;exact hl.symm
theorem anv {l:List ByteArray}{i:Nat}{x:ByteArray} (h:l[i]?=some x):(strs l)[i]?=some (.string x):=by
 unfold strs;rw [adW,h];rfl
theorem anx (l:List ByteArray):(strs l).length=l.length:=by unfold strs;simp
theorem Ro.more {p:World->Prop}{L:List aG} (h:Ro w0 F p):Ro w0 (L++F) p:=by
 induction L with
 |nil=>exact h
 |cons A L ih=>exact ih.cons
end
theorem Dl (x:Nat) (hx:x<18446744073709551616) (h:Sat w0 w F) :
  Calls prog 169 #[.int .u64 x,.int .i64 4] w (aP λv w'=>Sat w0 w' (bQ v (aj.le x 4)::F)/\∃ a,v=.slice a 4 4):=by
 have Hx:=uQ hx;clear hx;have hmk:∀ w,(Instr.makeSlice 39 (.int .i64 4) (.int .i64 4)).run prog w=.ok (.slice (some ⟨w.heap.size,0,none⟩) 4 4) (w.alloc (.cells #[.int .u8 0,.int .u8 0,.int .u8 0,.int .u8 0] 5)):=λw=>by kernel_rfl
 go_enter func169,ntmps169;go_wp2_with fail;have hA:=h.alloc (.cells #[.int .u8 0,.int .u8 0,.int .u8 0,.int .u8 0] 5);have hB:Sat w0 (w.alloc (.cells #[.int .u8 0,.int .u8 0,.int .u8 0,.int .u8 0] 5)) (bQ (.slice (some ⟨w.heap.size,0,none⟩) 4 4) [0,0,0,0]::F):=Sat.lN hA rfl (abl _) (abl _) zF0 rfl;obtain ⟨b0,b1,b2,b3,hb0,hb1,hb2,hb3,hle⟩:∃ b0 b1 b2 b3:UInt8,(x:Int)%256=b0.toNat/\(x:Int)/256%256=b1.toNat/\(x:Int)/65536%256=b2.toNat/\(x:Int)/16777216%256=b3.toNat/\aj.le x 4=[b0,b1,b2,b3]:=by
  refine ⟨_,_,_,_,?_,?_,?_,?_,rfl⟩
  all_goals (rw [ao6];omega)
 have qX:=uQ hle;clear hle hmk hA;generalize w.heap.size=q at *
 go_loopg [17] 4 (λg iq wr=>∃ (i:Nat) (l':Bs),g=4-i/\i<=4/\iq=.int .i64 i/\l'=(match i with|0=>[0,0,0,0]|1=>[b0,0,0,0]|2=>[b0,b1,0,0]|3=>[b0,b1,b2,0]|_=>[b0,b1,b2,b3])/\Sat w0 wr (bQ (.slice (some ⟨q,0,none⟩) 4 4) l'::F))
 case atStart=>exact ⟨0,_,rfl,by omega,rfl,rfl,hB⟩
 case round=>
  obtain ⟨i,l',rfl,hi,rfl,hl',hS⟩:=hrel;clear hB;obtain rfl|rfl|rfl|rfl|rfl:i=0\/i=1\/i=2\/i=3\/i=4:=by omega
  ·obtain rfl:l'=[0,0,0,0]:=hl';obtain ⟨g,he,e0,e1,hS5⟩:=sF (i:=0) hS yF0 b0;cases he;go_wp2_with fail
   go_roundg 3
   case measure=>omega
   case rel=>exact ⟨1,[b0,0,0,0],rfl,by omega,rfl,rfl,hS5⟩
  ·obtain rfl:l'=[b0,0,0,0]:=hl';obtain ⟨g,he,e0,e1,hS5⟩:=sF (i:=1) hS yF0 b1;cases he;go_wp2_with fail
   go_roundg 2
   case measure=>omega
   case rel=>exact ⟨2,[b0,b1,0,0],rfl,by omega,rfl,rfl,hS5⟩
  ·obtain rfl:l'=[b0,b1,0,0]:=hl';obtain ⟨g,he,e0,e1,hS5⟩:=sF (i:=2) hS yF0 b2;cases he;go_wp2_with fail
   go_roundg 1
   case measure=>omega
   case rel=>exact ⟨3,[b0,b1,b2,0],rfl,by omega,rfl,rfl,hS5⟩
  ·obtain rfl:l'=[b0,b1,b2,0]:=hl';obtain ⟨g,he,e0,e1,hS5⟩:=sF (i:=3) hS yF0 b3;cases he;go_wp2_with fail
   go_roundg 0
   case measure=>omega
   case rel=>exact ⟨4,[b0,b1,b2,b3],rfl,by omega,rfl,rfl,hS5⟩
  ·obtain rfl:l'=[b0,b1,b2,b3]:=hl';go_wp2;go_ret;exact ⟨_,rfl,by rw [qX.o];exact hS,_,rfl⟩
open Go Go.Sl Go.ay Go.ChangeShapes Go.WideShapes Go.RowKit
section
variable {H:Type}{enc:TypeId×Value->H}{W:World}{base:Nat}{spare:Nat->Bool}{held:Bool}
theorem Yc {α:Type} (k:Nat) (hk:0<k):∀ (xs:List (List α)) (_:∀ x∈xs,x.length=k) (i:Nat) (y:α),xs.flatten[i]?=some y->∃ x,xs[i/k]?=some x/\x[i%k]?=some y
 |[],_,_,_,h=>by simp at h
 |x::xs,hl,i,y,h=>by
  have hx:=hl x (.head _);rw [ao1]at h;rcases akJ i k with hi|hi
  ·rw [aej oQ]at h;refine ⟨x,?_,?_⟩
   ·rw [Nat.div_eq_of_lt hi];rfl
   ·rw [ape hi];exact h
  ·rw [aeh oQ,hx]at h;obtain ⟨z,h1,h2⟩:=Yc k hk xs (λq hq=>hl q (.tail _ hq)) (i-k) y h;have e1:i/k=(i-k)/k+1:=by
    conv=>lhs;rw [show i=(i-k)+k by omega]
    rw [Nat.add_div_right _ hk]
   have e2:i%k=(i-k)%k:=Nat.mod_eq_sub_mod hi;exact ⟨z,by rw [e1];exact h1,by rw [e2];exact h2⟩
theorem Yd {α:Type} (k:Nat):∀ (xs:List (List α)) (_:∀ x∈xs,x.length=k),xs.flatten.length=xs.length*k
 |[],_=>by simp
 |x::xs,hl=>by
  rw [ao1,aaL,Yd k xs (λq hq=>hl q (.tail _ hq)),hl x (.head _),aep,Nat.succ_mul];omega
theorem aah {α:Type}{n:Nat}{p:Nat->α->Prop} (h:∀ i,i<n->∃ x,p i x):∃ l:List α,l.length=n/\∀ i x,l[i]?=some x->p i x:=by
 induction n with
 |zero=>exact ⟨[],rfl,λi x h=>by simp at h⟩
 |succ n ih=>
  obtain ⟨l,h1,h2⟩:=ih λi hi=>h i (Nat.lt_succ_of_lt hi);obtain ⟨x,hx⟩:=h n (Nat.lt_succ_self n);refine ⟨l++[x],by simp [h1],λi y hy=>?_⟩;rcases aqg i n with hlt|rfl|hgt
  ·rw [aej oQ]at hy;exact h2 i y hy
  ·rw [aeh oQ,h1,ajN]at hy;cases hy;exact hx
  ·rw [aiH yW0]at hy;cases hy
theorem aa8 {t e:TypeId}{k fuel:Nat}{v:Value}{x:DataW H×List MemPlace} (ht:P.underlying t=some (.slice e)) (hc:P.cellsOf e=k) (hk:0<k) (h:DataW.trod enc P W base spare held fuel t [v]=some x) :
  ∃ elems:List (List Value),bF k v elems.flatten W/\lY v/\∀ cs∈elems,cs.length=k/\∃ n y,DataW.trod enc P W base spare held n e cs=some y:=by
 rcases Go.Deep.open_slice ht h with ⟨hcs,_⟩|⟨a,len,cap,m,n,D,Pl,hcs,hb,hl,hm,hmm,_,hx⟩
 ·obtain rfl:v=.slice none 0 0:=by simpa using hcs
  exact ⟨[],xu _ _ _,⟨_,_,_,rfl,abl _,by omega⟩,by simp⟩
 ·obtain rfl:v=.slice (some a) len cap:=by simpa using hcs
  have hlm:len<=m:=by rw [hmm];split <;> omega
  rw [hc]at hx;obtain ⟨l,l1,l2⟩:=aah (n:=len) λi hi=>hx i oQ;have hlen:∀ cs∈l,cs.length=k:=by
   intro cs hcs;obtain ⟨i,hi,rfl⟩:=aoY hcs;obtain ⟨h1,_⟩:=l2 i _ (aay hi);exact (World.cells?_some h1).2.1
  refine ⟨l,⟨some a,len,cap,rfl,by rw [Yd k l hlen,l1],λi y hy=>⟨a,rfl,?_⟩⟩,⟨_,_,_,rfl,hl,by unfold maxLen at hm;omega⟩,λcs hcs=>⟨hlen cs hcs,?_⟩⟩
  ·obtain ⟨cs,h1,h2⟩:=Yc k hk l hlen i y hy;obtain ⟨h3,_⟩:=l2 _ _ h1;have h4:=(World.cells?_some h3).2.2 (i%k) (ao0 _ hk);rw [Go.Deep.add_add,h2]at h4;rw [<-h4]
   congr 2
   rw [aiv];exact (Nat.div_add_mod i k).symm
  ·obtain ⟨i,hi,rfl⟩:=aoY hcs;obtain ⟨_,h2⟩:=l2 i _ (aay hi);exact ⟨n,_,h2⟩
theorem akz {t:TypeId}{fs:Array Field}{fuel:Nat}{cs:List Value}{x:DataW H×List MemPlace} (ht:P.underlying t=some (.struct fs)) (h:DataW.trod enc P W base spare held fuel t cs=some x) :
  cs.length=P.cellsOf t/\∀ (i:Nat) (f:Field),fs[i]?=some f->∃ n y,DataW.trod enc P W base spare held n f.type ((cs.drop f.offset).take (P.cellsOf f.type))=some y:=by
 obtain ⟨xs,n,_,_,hl,hxl,hf⟩:=DataW.trod_struct ht h;refine ⟨hl,λi f hi=>⟨n,?_⟩⟩;have hlt:i<xs.length:=by rw [hxl];exact (amF.1 hi).1
 exact ⟨xs[i],by rw [hf i f hi];exact aay hlt⟩
theorem QH {α β:Type}{f:α->β}{p:α->Prop}:∀ (l:List β) (_:∀ y∈l,∃ x,f x=y/\p x),∃ xs:List α,xs.map f=l/\∀ x∈xs,p x
 |[],_=>⟨[],rfl,by simp⟩
 |y::l,h=>by
  obtain ⟨x,h1,h2⟩:=h y (.head _);obtain ⟨xs,h3,h4⟩:=QH l λz hz=>h z (.tail _ hz);refine ⟨x::xs,by simp [h1,h3],λz hz=>?_⟩;rcases ad5.1 hz with rfl|hz
  ·exact h2
  ·exact h4 z hz
def Gx (zs:List Int):Bs:=zs.map λz=>UInt8.ofNat z.toNat
theorem WQ {zs:List Int} (h:∀ z∈zs,(Lit.int .u8 z).wf=true):aA (Gx zs)=zs.map (.int .u8):=by
 unfold aA Gx;rw [aeW];apply akU;intro z hz;have hb:=bounds_u8 (h z hz);simp only [Function.comp,Value.int.injEq,true_and];rw [ao6];omega
theorem ZH {t e:TypeId}{k:IntKind}{fuel:Nat}{v:Value}{x:DataW H×List MemPlace} (ht:P.underlying t=some (.slice e)) (he:P.underlying e=some (.int k)) (hc:P.cellsOf e=1) (h:DataW.trod enc P W base spare held fuel t [v]=some x) :
  ∃ l:List Int,bF 1 v (l.map (.int k)) W/\lY v/\∀ z∈l,(Lit.int k z).wf=true:=by
 obtain ⟨elems,h1,h2,h3⟩:=aa8 ht hc oQ h;obtain ⟨l,h4,h5⟩:=QH (f:=λz:Int=>[Value.int k z]) (p:=λz=>(Lit.int k z).wf=true) elems λcs hcs=>by
  obtain ⟨_,n,y,h6⟩:=h3 cs hcs;obtain ⟨z,hz,_,hw⟩:=apY he h6;exact ⟨z,hz.symm,hw⟩
 refine ⟨l,?_,h2,h5⟩;rw [<-h4]at h1;have:(l.map λz:Int=>[Value.int k z]).flatten=l.map (.int k):=by
  clear h1 h4 h5
  induction l with
  |nil=>rfl
  |cons z l ih=>simp only [ad7,ao1,ih];rfl
 rw [this]at h1;exact h1
theorem aiR {t e:TypeId}{fuel:Nat}{v:Value}{x:DataW H×List MemPlace} (ht:P.underlying t=some (.slice e)) (he:P.underlying e=some (.int .u8)) (hc:P.cellsOf e=1) (h:DataW.trod enc P W base spare held fuel t [v]=some x) :
  ∃ l:Bs,bF 1 v (aA l) W/\lY v:=by
 obtain ⟨l,h1,h2,h3⟩:=ZH ht he hc h;exact ⟨Gx l,by rw [WQ h3];exact h1,h2⟩
theorem aiS {t e:TypeId}{fuel:Nat}{v:Value}{x:DataW H×List MemPlace} (ht:P.underlying t=some (.slice e)) (he:P.underlying e=some (.int .i64)) (hc:P.cellsOf e=1) (h:DataW.trod enc P W base spare held fuel t [v]=some x) :
  ∃ l:List Int,bF 1 v (ints l) W/\lY v/\∀ z∈l,qK z:=by
 obtain ⟨l,h1,h2,h3⟩:=ZH ht he hc h;exact ⟨l,h1,h2,λz hz=>bounds_i64 (h3 z hz)⟩
theorem af4 {w:World}{a:Addr}{v:Value} (h:Sat W w [Sl.old W]) (hc:W.cell? a=some v):w.cell? a=some v:=by
 have hlt:a.block<W.heap.size:=by
  rcases akJ a.block W.heap.size with h1|h1
  ·exact h1
  ·unfold World.cell? at hc;rw [apK h1]at hc;simp at hc
 unfold World.cell? at hc ⊢;rw [h.old hlt];exact hc
theorem KI {v:Value}{k:Nat}{xs:List Value} (h:bF k v xs W):Ro W [Sl.old W] (bF k v xs):=by
 intro w hw;obtain ⟨a,n,c,he,hl,hx⟩:=h;refine ⟨a,n,c,he,hl,λi x hi=>?_⟩;obtain ⟨b,hb,hc⟩:=hx i x hi;exact ⟨b,hb,af4 hw hc⟩
theorem own:ownKnob prog.godebug=none:=by kernel_rfl
theorem laidOut:laidOutB prog=true:=by kernel_rfl
end
open Go.ay
theorem acz {e:TypeId}{k:IntKind} (he:P.underlying e=some (.int k)) (xs:Array Value) (i:Nat) (v:Value) (hv:xs[i]?=some v) (w:World):(part e xs i).run P w=.ok v w:=by
 unfold part isAgg;simp [ad1,afM he,hv]
theorem Tj (d:Nat){e:TypeId}{k:IntKind} (he:P.underlying e=some (.int k)) (ks ls:List Int):∀ (is:List Nat),(∀ i∈is,i<ks.length/\i<ls.length)->∀ w,
  (Op.eqItems (d+1) e 1 (ks.map (.int k)).toArray (ls.map (.int k)).toArray is).run P w=.ok (is.all λi=>ks.getD i 0==ls.getD i 0) w
 |[],_,w=>by simp [Op.eqItems]
 |i::is,h,w=>by
  obtain ⟨h1,h2⟩:=h i (.head _);have a1:((ks.map (Value.int k)).toArray)[i*1]?=some (.int k (ks.getD i 0)):=by
   rw [aes,ace,adW,aay h1,adT,aay h1];rfl
  have a2:((ls.map (Value.int k)).toArray)[i*1]?=some (.int k (ls.getD i 0)):=by
   rw [aes,ace,adW,aay h2,adT,aay h2];rfl
  unfold Op.eqItems;simp only [ad1,acz he _ _ _ a1,acz he _ _ _ a2,adu,run_equalIn_int w d e k k _ _ he];have ih:=Tj d he ks ls is (λj hj=>h j (.tail _ hj)) w;cases hb:(ks.getD i 0==ls.getD i 0)
  ·simp only [aql,hb,Bool.not_false,apa,aek,Bool.false_and]
  ·simp only [aql,hb,Bool.not_true,afX,apA,ih,apV]
theorem all_eq (ks ls:List Int) (h:ks.length=ls.length):((List.range ks.length).all λi=>ks.getD i 0==ls.getD i 0)=decide (ks=ls):=by
 rw [aol,ae0,adY];constructor
 ·intro hh;apply List.ext_getElem h;intro i h1 h2;have:=hh i (List.mem_range.2 h1);rw [ai5,adT,adT,aay h1,aay h2]at this;exact this
 ·rintro rfl i _;simp
theorem amm {t e:TypeId}{n:Nat}{k:IntKind}{i:TypeInfo} (hu:P.underlying t=some (.array n e)) (he:P.underlying e=some (.int k)) (hi:P.info? e=some i) (hc:P.cellsOf e=1) (ks ls:List Int) (h1:ks.length=n) (h2:ls.length=n) (w:World) :
  (binOp .neq t (.agg (ks.map (.int k)).toArray) (.agg (ls.map (.int k)).toArray)).run P w=.ok (.bool (!decide (ks=ls))) w:=by
 have h:=run_equalIn_array (P:=P) w 9999 (ks.map (.int k)).toArray (ls.map (.int k)).toArray hu hi;rw [hc,Tj 9998 he ks ls (List.range n) (λi hi=>by have:=List.mem_range.1 hi;omega)]at h;rw [run_neq_struct,h,<-h1,all_eq ks ls oQ]
 rfl
theorem amf {t e:TypeId}{n:Nat}{k:IntKind}{i:TypeInfo} (hu:P.underlying t=some (.array n e)) (he:P.underlying e=some (.int k)) (hi:P.info? e=some i) (hc:P.cellsOf e=1) (ks ls:List Int) (h1:ks.length=n) (h2:ls.length=n) (w:World) :
  (Op.equalIn 10000 t (.agg (ks.map (.int k)).toArray) (.agg (ls.map (.int k)).toArray)).run P w=.ok (decide (ks=ls)) w:=by
 have h:=run_equalIn_array (P:=P) w 9999 (ks.map (.int k)).toArray (ls.map (.int k)).toArray hu hi;rw [hc,Tj 9998 he ks ls (List.range n) (λi hi=>by have:=List.mem_range.1 hi;omega)]at h;rw [h,<-h1,all_eq ks ls oQ]
theorem aml (w:World) (g off:Nat) (t ty:TypeId) (cs ks:Array Value) (fr:Nat×Nat) (d:TypeDesc) (hg:w.heap[g]?=some (.cells cs t fr)) (hk:∀ j v,ks[j]?=some v->cs[off+j]?=some v)
  (hu:P.underlying ty=some d) (hd:(match d with | .struct _ | .array _ _=>true|_=>false)=true) (hi:(P.info? ty).map (·.size)=some ks.size) :
  (loadVar ty ⟨g,off,none⟩).run P w=.ok (.agg ks) w:=by
 have hl:(loadCells ⟨g,off,none⟩ ks.toList.length).run P w=.ok ks.toList.toArray w:=
  run_loadCells_list (P:=P) w ⟨g,off,none⟩ ks.toList (λj v hv=>by
   have hadd:(⟨g,off,none⟩:Addr).add j=⟨g,off+j,none⟩:=by unfold Addr.add;split <;> simp_all
   rw [hadd,cell_of_row w g _ cs t fr hg];exact hk j v (by simpa using hv))
 cases hq:P.info? ty with
 |none=>simp [hq]at hi
 |some i=>
  have hs:i.size=ks.size:=by simpa [hq] using hi
  have hagg:(isAgg ty).run P w=.ok true w:=by
   unfold isAgg;rw [ad1,afM hu w];cases d <;> simp_all
  simp only [ad4,Array.toArray_toList]at hl;simp [loadVar,ad1,hagg,sizeOf,typeInfo,hq,hs,hl]
theorem Uz {ops:Array Oper}{rest:List Oper}{o:Oper}{a:Act}{w:World}{Q:Exit->Act->World->Prop} (hgd:o.guard=none) (ty:TypeId) (x:Operand) (ho:o.op=.load ty x)
  (g off:Nat) (hx:a.eval x=.pointer (some ⟨g,off,none⟩)) (t:TypeId) (cs ks:Array Value) (fr:Nat×Nat) (d:TypeDesc) (hg:w.heap[g]?=some (.cells cs t fr)) (hk:∀ j v,ks[j]?=some v->cs[off+j]?=some v)
  (hu:P.underlying ty=some d) (hd:(match d with | .struct _ | .array _ _=>true|_=>false)=true) (hi:(P.info? ty).map (·.size)=some ks.size)
  (h:wpList P ops Q rest (a.put o.dst (.agg ks)) w):wpList P ops Q (o::rest) a w:=
 aeV hgd λ_ hK=>by
  unfold Oper.wp execOp;simp only [ho,hx,Instr.loadAt,Instr.sureAddr,ad1,aek,adu,aml w g off t ty cs ks fr d hg hk hu hd hi];exact hK _ _ h
def lZ (x:aj.aI) (dv:Value):List Value:= .int .i64 x.tag::(aA x.key++[dv])
def dQ (x:aj.aI) (dv:Value):Array Value:=(lZ x dv).toArray
theorem fF (x:aj.aI) (dv:Value) (hk:x.key.length=32):(dQ x dv).size=34:=by unfold dQ lZ;simp [aA,hk]
theorem Aa (x:aj.aI) (dv:Value):(dQ x dv)[0]?=some (.int .i64 x.tag):=rfl
theorem ET (x:aj.aI) (dv:Value) (hk:x.key.length=32):(dQ x dv)[33]?=some dv:=by
 unfold dQ lZ;rw [ace,ajF,aeh (by rw [aX];omega),aX,hk];rfl
theorem XQ (x:aj.aI) (dv:Value) (hk:x.key.length=32):∀ j v,(aA x.key).toArray[j]?=some v->(dQ x dv)[1+j]?=some v:=by
 intro j v h;rw [ace]at h;have hj:j<(aA x.key).length:=(abm.1 h).1;unfold dQ lZ;rw [ace,apW,ajF,aej hj];exact h
theorem Jb (k:Bs):aA k=(k.map λb=>(b.toNat:Int)).map (.int .u8):=by unfold aA;rw [aeW];rfl
theorem ZM {k l:Bs} (h:(k.map λb=>(b.toNat:Int))=l.map λb=>(b.toNat:Int)):k=l:=by
 induction k generalizing l with
 |nil=>cases l with
  |nil=>rfl
  |cons=>simp at h
 |cons a k ih=>cases l with
  |nil=>simp at h
  |cons b l=>
   simp only [ad7,List.cons.injEq]at h;rw [ih h.2]
   congr 1
   exact UInt8.toNat_inj.1 oQ
theorem aaz (k l:Bs) (hk:k.length=32) (hl:l.length=32) (w:World):(binOp .neq 50 (.agg (aA k).toArray) (.agg (aA l).toArray)).run prog w=.ok (.bool (!decide (k=l))) w:=by
 obtain ⟨i,hi,_⟩:=vC;have:=amm (P:=prog) underlying50 underlying5 hi au (k.map λb=>(b.toNat:Int)) (l.map λb=>(b.toNat:Int)) (by simpa using hk) (by simpa using hl) w;rw [Jb,Jb,this]
 congr 3
 rw [aol,adY,adY];exact ⟨λh=>ZM h,λh=>by rw [h]⟩
theorem XV (k l:Bs) (hk:k.length=32) (hl:l.length=32) (w:World):(Op.equalIn 10000 50 (.agg (aA k).toArray) (.agg (aA l).toArray)).run prog w=.ok (decide (k=l)) w:=by
 obtain ⟨i,hi,_⟩:=vC;have:=amf (P:=prog) underlying50 underlying5 hi au (k.map λb=>(b.toNat:Int)) (l.map λb=>(b.toNat:Int)) (by simpa using hk) (by simpa using hl) w;rw [Jb,Jb,this]
 congr 2
 rw [eq_iff_iff];exact ⟨λh=>ZM h,λh=>by rw [h]⟩
theorem aoX:(aA aj.zero32).toArray=#[.int .u8 0,.int .u8 0,.int .u8 0,.int .u8 0,.int .u8 0,.int .u8 0,.int .u8 0,.int .u8 0,.int .u8 0,.int .u8 0,.int .u8 0,.int .u8 0,.int .u8 0,.int .u8 0,.int .u8 0,.int .u8 0,.int .u8 0,.int .u8 0,.int .u8 0,.int .u8 0,.int .u8 0,.int .u8 0,.int .u8 0,.int .u8 0,.int .u8 0,.int .u8 0,.int .u8 0,.int .u8 0,.int .u8 0,.int .u8 0,.int .u8 0,.int .u8 0]:=rfl
theorem ahe (k:Bs) (hk:k.length=32) (w:World):(Op.equalIn 10000 50 (.agg (aA k).toArray) (.agg #[.int .u8 0,.int .u8 0,.int .u8 0,.int .u8 0,.int .u8 0,.int .u8 0,.int .u8 0,.int .u8 0,.int .u8 0,.int .u8 0,.int .u8 0,.int .u8 0,.int .u8 0,.int .u8 0,.int .u8 0,.int .u8 0,.int .u8 0,.int .u8 0,.int .u8 0,.int .u8 0,.int .u8 0,.int .u8 0,.int .u8 0,.int .u8 0,.int .u8 0,.int .u8 0,.int .u8 0,.int .u8 0,.int .u8 0,.int .u8 0,.int .u8 0,.int .u8 0])).run prog w=.ok (decide (k=aj.zero32)) w:=by
 rw [<-aoX];exact XV k _ hk rfl w
theorem WV (x:aj.aI) (hk:x.key.length=32) (a:Option Addr) (c:Nat) (h:Sat w0 w F) :
  Calls prog 167 #[.agg (dQ x (.slice a x.data.length c))] w (aP λv w'=>v=errno (aj.check x)/\Sat w0 w' F):=by
 have hA:=h.alloc (.cells (dQ x (.slice a x.data.length c)) 52);have c0:=hA.cellAt 0 _ (Aa x _);have zX:=hA.cellAt 33 _ (ET x _ hk);have hat:=hA.at;have hnk:=ahe x.key hk;have hkk:=XQ x (.slice a x.data.length c) hk;have Ej:=uQ hkk;have qV:=uQ hat;have hks:(aA x.key).toArray.size=32:=by simp [aA,hk]
 have iK:=uQ hks;have HA:=uQ hA.drop;clear hkk hat hks hA;generalize hL:x.data.length=L at *
 have HL:=uQ hL;clear hL;by_cases t2:x.tag=2
 ·rw [t2]at c0;by_cases hz:x.key=aj.zero32
  ·have hzd:decide (x.key=aj.zero32)=true:=aeb hz;have Hz:=uQ hz;clear hz;by_cases h0:0<L
   ·have Hf:=uQ (show aj.check x=4 by unfold aj.check;simp [t2,Hz.o,HL.o,h0]);have h0i:(0:Int)<(L:Int):=by omega
    go_enter func167,ntmps167;go_wp2_with (refine Uz (P:=prog) ah 50 _ ah _ 1 ah _ _ (aA x.key).toArray (0,0) _ qV.o Ej.o underlying50 ah yG0 ?_);go_ret;exact ⟨errno 4,rfl,by rw [Hf.o],HA.o⟩
   ·obtain rfl:L=0:=by omega
    have Hf:=uQ (show aj.check x=0 by unfold aj.check;simp [t2,Hz.o,HL.o]);go_enter func167,ntmps167;go_wp2_with (refine Uz (P:=prog) ah 50 _ ah _ 1 ah _ _ (aA x.key).toArray (0,0) _ qV.o Ej.o underlying50 ah yG0 ?_);go_ret;exact ⟨errno 0,rfl,by rw [Hf.o],HA.o⟩
  ·have hzd:decide (x.key=aj.zero32)=false:=ad2 hz;have Hf:=uQ (show aj.check x=4 by unfold aj.check;simp [t2,hz]);clear hz;go_enter func167,ntmps167;go_wp2_with (refine Uz (P:=prog) ah 50 _ ah _ 1 ah _ _ (aA x.key).toArray (0,0) _ qV.o Ej.o underlying50 ah yG0 ?_);go_ret;exact ⟨errno 4,rfl,by rw [Hf.o],HA.o⟩
 ·have t2b:(x.tag==2)=false:=by simpa using t2
  clear hnk;by_cases t0:x.tag=0
  ·rw [t0]at c0;by_cases hb:16384<L
   ·have Hf:=uQ (show aj.check x=5 by unfold aj.check;simp [t0,HL.o,hb]);have hbi:(16384:Int)<(L:Int):=by omega
    go_enter func167,ntmps167;go_wp2;go_ret;exact ⟨errno 5,rfl,by rw [Hf.o],HA.o⟩
   ·have Hf:=uQ (show aj.check x=0 by unfold aj.check;simp [t0,HL.o,hb]);have hbi:¬ (16384:Int)<(L:Int):=by omega
    go_enter func167,ntmps167;go_wp2;go_ret;exact ⟨errno 0,rfl,by rw [Hf.o],HA.o⟩
  ·have t0b:(x.tag==0)=false:=by simpa using t0
   by_cases t1:x.tag=1
   ·rw [t1]at c0;by_cases h0:0<L
    ·have Hf:=uQ (show aj.check x=4 by unfold aj.check;simp [t1,HL.o,h0]);have h0i:(0:Int)<(L:Int):=by omega
     go_enter func167,ntmps167;go_wp2;go_ret;exact ⟨errno 4,rfl,by rw [Hf.o],HA.o⟩
    ·obtain rfl:L=0:=by omega
     have Hf:=uQ (show aj.check x=0 by unfold aj.check;simp [t1,HL.o]);go_enter func167,ntmps167;go_wp2;go_ret;exact ⟨errno 0,rfl,by rw [Hf.o],HA.o⟩
   ·have t1b:(x.tag==1)=false:=by simpa using t1
    have Hf:=uQ (show aj.check x=4 by unfold aj.check;simp [t0,t1,t2]);clear t0 t1 t2;generalize x.tag=T at *
    go_enter func167,ntmps167;go_wp2;go_ret;exact ⟨errno 4,rfl,by rw [Hf.o],HA.o⟩
section
theorem aau (l c:Nat) (h1:l<=c) (h2:c<=1099511627776) (w:World) :
  (Instr.makeSlice 39 (.int .i64 l) (.int .i64 c)).run prog w=.ok (.slice (some ⟨w.heap.size,0,none⟩) l c) (w.alloc (.cells (madeCells #[.int .u8 0] c) 5)):=by
 obtain ⟨i,hi,hz0,hz1,hz2⟩:=vC;have:=run_make (P:=prog) w 39 5 i _ underlying39 hi hz0 .i64 .i64 (l:Int) (c:Int) oQ oQ (by rw [hz2];omega) oQ;simp only [apM,hz1,aes]at this;exact this
theorem aas {l c:Nat} (h1:l<=c) (h2:c<=1099511627776) (h:Sat w0 w (pt q (.cells (madeCells #[.int .u8 0] c) 5 (0,0))::F)):Sat w0 w (bQ (.slice (some ⟨q,0,none⟩) l c) (List.replicate l 0)::F):=by
 refine Sat.lN h (by rw [aX,afx,aes]) h1 (by rw [size_madeCells,aes];exact abl _) zF0 ?_;rw [toList_madeCells_one,aes,List.take_replicate,ap1 h1];unfold aA;rw [List.map_replicate];rfl
section
variable {o:Oper}{sv:Value}
theorem adD (hgd:o.guard=none) (d s:Operand)
  (ho:o.op=.call { callee:= .builtin .copy,args:=#[d,s],argTypes:=#[39,39] }) (g n c:Nat) (hd:a.eval d=.slice (some ⟨g,0,none⟩) n c) (hs:a.eval s=sv)
  {l x:Bs} (h:Sat w0 w (bQ (.slice (some ⟨g,0,none⟩) n c) l::F)) (hx:bF 1 sv (aA x) w) (h0:x≠[]) (hl:x.length<=l.length)
  (hK:∀ w',Sat w0 w' (bQ (.slice (some ⟨g,0,none⟩) n c) (x++l.drop x.length)::F)->wpList prog ops Q rest (a.put o.dst (goInt x.length)) w'):wpList prog ops Q (o::rest) a w:=by
 obtain ⟨i,hi,hz0,hz1,hz2⟩:=vC;obtain ⟨sa,sn,sc,rfl,hsl,hcell⟩:=hx;rw [aX,aes]at hsl;obtain ⟨ad,rfl⟩:∃ ad,sa=some ad:=by
  cases x with
  |nil=>exact absurd rfl h0
  |cons b x=>obtain ⟨ad,h1,_⟩:=hcell 0 _ rfl;exact ⟨ad,h1⟩
 rcases Sat.lC h with ⟨he,_⟩|⟨g',n',c',cs,he,e1,e2,e3,e4,e5,hp⟩
 ·cases he
 ·cases he;rw [aX,aes]at e1;rw [aes]at e3 e5;have hsz:(prog.info? 5).map (·.size)=some 1:=by rw [hi];simp [hz1]
  refine wpList_copy_own hgd d s _ _ ho 5 underlying39 hsz g 0 n c ad sn sc hd hs cs 5 hp.at (aA x) (by rw [aX];show _=min sn n;omega) (λj v hj=>by obtain ⟨b,hb,hc⟩:=hcell j v hj;cases hb;exact hc) (by rw [aX];omega) (wG _) ?_;rw [aX];refine hK _ ?_;have h1:=hp.turn (w':=w.setRow g (cs.toList.take 0++(aA x++cs.toList.drop (0+x.length))).toArray) rfl rfl rfl yF0 (setRow_heap w g cs _ _ _ hp.at) (λj hj _=>setRow_other w g j _ hj);refine Sat.lN h1 ?_ e2 ?_ e4 ?_
  ·rw [aX,aaL,ad3,aes];omega
  ·simp only [aeO,aeu,abn,aaL,ad3,aX,ad4];omega
  ·simp only [aeO,aeu,ad8,aes];unfold aA at e5 ⊢;rw [adU,List.map_drop,<-e5,List.take_append,aa4,ad9 yW0,List.drop_take]
end
theorem ahG (x:aj.aI) (hk:x.key.length=32) (a:Option Addr) (c:Nat) (h:Sat w0 w F) (hL:x.data.length<=1099511627776) :
  Calls prog 168 #[.agg (dQ x (.slice a x.data.length c))] w (aP λv w'=>v=.int .i64 (aj.size x:Nat)/\Sat w0 w' F):=by
 have hA:=h.alloc (.cells (dQ x (.slice a x.data.length c)) 52);have hch:=WV x hk a c hA;have hat:=hA.at;have hsz:=fF x (.slice a x.data.length c) hk;have qV:=uQ hat;have iZ:=uQ hsz;have Hk:=uQ hk;have HL:=uQ hL;clear hat hsz hk hA hL;go_enter func168,ntmps168;go_wp2_with (refine wpList_load_row (P:=prog) ah 52 _ ah _ ah _ _ (0,0) _ qV.o underlying52 ah (by rw [iZ.o];kernel_rfl) ?_);refine hch.mono ?_;rintro e w1 ⟨v,rfl,rfl,hS1⟩;have c0:=hS1.cellAt 0 _ (Aa x _);have zX:=hS1.cellAt 33 _ (ET x _ Hk.o);clear hch;by_cases hc:aj.check x=0
 ·by_cases ht:x.tag=2
  ·have Hf:=uQ (show aj.size x=9 by unfold aj.size;simp [hc,ht]);rw [hc];rw [ht]at c0;go_wp2;go_ret;exact ⟨.int .i64 9,rfl,by rw [Hf.o];rfl,hS1.drop⟩
  ·have Hf:=uQ (show aj.size x=41+x.data.length by unfold aj.size;simp [hc,ht]);have htb:(x.tag==2)=false:=by simpa using ht
   have hwr:IntKind.i64.wrap (41+(x.data.length:Int))=41+(x.data.length:Int):=adr _ (by have:=HL.o;omega);rw [hc];clear ht;generalize x.tag=T at *
   go_wp2;go_ret;exact ⟨.int .i64 (41+(x.data.length:Int)),rfl,by rw [Hf.o];rfl,hS1.drop⟩
 ·have Hf:=uQ (show aj.size x=0 by unfold aj.size;simp [hc]);have hcb:(aj.check x==0)=false:=by simpa using hc
  clear hc;generalize aj.check x=E at *
  go_wp2;go_ret;exact ⟨.int .i64 0,rfl,by rw [Hf.o];rfl,hS1.drop⟩
end
section
section
variable {o:Oper}
theorem Bq (hgd:o.guard=none) (s y:Operand) (ho:o.op=.call { callee:= .builtin .append,args:=#[s,y],argTypes:=#[39,39] })
  (hv:a.eval s=v) (hxv:a.eval y=x) {l m:Bs} (h:Sat w0 w (bQ v l::F)) (hx:bF 1 x (aA m) w) (hlen:l.length+m.length<=1099511627776) (hne:l++m≠[])
  (hK:∀ b n c w',Sat w0 w' (bQ (.slice (some ⟨b,0,none⟩) n c) (l++m)::F)->n=(l++m).length->n<=c->c<=9223372036854775807->wpList prog ops Q rest (a.put o.dst (.slice (some ⟨b,0,none⟩) n c)) w'):wpList prog ops Q (o::rest) a w:=by
 obtain ⟨i,hi,hz0,hz1,hz2⟩:=vC;have h63:(aA l).length+(aA m).length<=maxLen:=by rw [aX,aX];unfold maxLen;omega
 have hby:((aA l).length+(aA m).length)*i.bytes<=140737488355328:=by rw [aX,aX,hz2];omega
 refine zo (w0:=w0) hgd s y 39 ho _ i _ underlying39 hi hz0 hz1 ah oQ hv hxv (wG _) h hx h63 hby ?_;intro v' w' hS hn;obtain ⟨b,n,c,rfl⟩:=hn (by rw [<-zW];intro e;apply hne;simpa [aA] using e);rw [<-zW]at hS;obtain ⟨a',n',c',he,h1,h2,h3⟩:=BU hS;cases he;exact hK b n c w' hS h3 h1 h2
end
theorem akr (t:Int) (h:t=0\/t=1\/t=2):IntKind.u8.wrap t=((UInt8.ofNat t.toNat).toNat:Int):=by
 rcases h with rfl|rfl|rfl <;> decide
theorem aje (e:aj.aI) (hk:e.key.length=32) (dv:Value) (h:Sat w0 w (pt q (.cells (dQ e dv) 52 (0,0))::F)):bF 1 (.slice (some ⟨q,1,none⟩) 32 32) (aA e.key) w:=by
 refine ⟨_,32,32,rfl,by rw [aX,hk],λi y hi=>⟨_,rfl,?_⟩⟩;have e1:(⟨q,1,none⟩:Addr).add i=⟨q,1+i,none⟩:=by unfold Addr.add;split <;> simp_all
 rw [e1];exact h.cellAt _ _ (XQ e dv hk i y (by simpa using hi))
theorem ag3 (e:aj.aI) (hk:e.key.length=32) (da:Option Addr) (dc:Nat) (hd:Ro w0 F (bF 1 (.slice da e.data.length dc) (aA e.data))) (hH:Ro w0 F Half) (h:Sat w0 w F) (hL:e.data.length<=1099511627) :
  Calls prog 125 #[.agg (dQ e (.slice da e.data.length dc))] w (aP λv w'=>∃ bv,v=.tuple #[bv,errno (aj.encode e).2]/\(∃ a n c,bv=.slice a n c)/\Sat w0 w' (bQ bv (aj.encode e).1::F)):=by
 have hA:=h.alloc (.cells (dQ e (.slice da e.data.length dc)) 52);have hch:=WV e hk da dc hA;have hat:=hA.at;have hsz:=fF e (.slice da e.data.length dc) hk;have qV:=uQ hat;have iZ:=uQ hsz;have Hk:=uQ hk;have HL:=uQ hL;have Hd:=uQ hd;have HH:=uQ hH;clear hat hsz hk hA hL hd hH;go_enter func125,ntmps125;go_wp2_with (refine wpList_load_row (P:=prog) ah 52 _ ah _ ah _ _ (0,0) _ qV.o underlying52 ah (by rw [iZ.o];kernel_rfl) ?_);refine hch.mono ?_;rintro ee w1 ⟨v,rfl,rfl,hS1⟩;clear hch;generalize w.heap.size=q at *
 by_cases hc:aj.check e=0
 ·have YU:=uQ hS1.at;have hsc:=ahG e Hk.o da dc hS1 (by have:=HL.o;omega);have Hc:=uQ hc;have htag:e.tag=0\/e.tag=1\/e.tag=2:=by
   unfold aj.check at hc;by_cases t0:e.tag=0
   ·exact .inl t0
   by_cases t2:e.tag=2
   ·exact .inr (.inr t2)
   by_cases t1:e.tag=1
   ·exact .inr (.inl t1)
   simp [t0,t1,t2]at hc
  have aeQ:=uQ htag;rw [hc];clear hc htag;go_wp2_with (refine wpList_load_row (P:=prog) ah 52 _ ah _ ah _ _ (0,0) _ YU.o underlying52 ah (by rw [iZ.o];kernel_rfl) ?_);refine hsc.mono ?_;rintro ee w2 ⟨v,rfl,rfl,hS2⟩;clear hsc YU qV;have Zh:9<=aj.size e/\aj.size e<=41+e.data.length:=by
   unfold aj.size;rw [abj (by rw [Hc.o];simp)];split <;> omega
  have hN:=uQ Zh;have hmk:=aau 4 (aj.size e) oQ (by have:=HL.o;omega);have hcast:((4:Nat):Int)=4:=rfl;rw [hcast]at hmk;have hA2:=(hS2.alloc (.cells (madeCells #[.int .u8 0] (aj.size e)) 5));have hB:=aas (l:=4) oQ (by have:=HL.o;omega) hA2;have hput:=Dl (aj.size e) (by have:=HL.o;omega) hB;have hwu:IntKind.u64.wrap (aj.size e:Int)=(aj.size e:Int):=by
   rw [show ∀ n:Int,IntKind.u64.wrap n=n%18446744073709551616 from λn=>by simp [IntKind.wrap,IntKind.bits,IntKind.signed]];have:=HL.o;omega
  clear hcast Zh hA2;go_wp2_with fail;refine hput.mono ?_;rintro ee w3 ⟨v,rfl,hS3,pa,rfl⟩;clear hput hwu hB hmk;generalize w2.heap.size=q2 at *
  have c0:=(hS3.sel 3 [2] rfl rfl).cellAt 0 _ (Aa e _);have hr1:bF 1 (.slice pa 4 4) (aA (aj.le (aj.size e) 4)) w3:=Sat.rd hS3;have hl4:=aj.jk (aj.size e) 4;obtain ⟨tb,htb⟩:∃ tb,tb=UInt8.ofNat e.tag.toNat:=⟨_,rfl⟩;have Zz:e.tag%256=(tb.toNat:Int):=by
   rw [htb,<-akr _ aeQ.o];exact (IntKind.wrap_u8' _).symm
  have NY:=uQ htb;clear htb;have hd3:=Hd.o;have E5:=uQ (show (List.replicate 4 (0:UInt8)++aj.le (aj.size e) 4).length=8 by rw [aaL,hl4,afx]);have Vm:=uQ hl4;clear hl4;by_cases ht2:e.tag=2
  ·have rZ:=uQ ht2;rw [ht2]at c0;have Zy:tb=2:=by rw [NY.o,ht2];rfl
   have aeR:=uQ Zy;clear Zz Zy
   go_wp2_with (first
    |(at_builtin;refine Bq (w0:=w0) (l:=List.replicate 4 0) (m:=aj.le (aj.size e) 4) ah _ _ ah ah ah (hS3.sel 3 [1,2] rfl rfl) hr1 (by rw [Vm.o,afx];omega) yF0 ?_;intro b4 n4 k4 w4 hS4 hx1 hx2 hx3;clear hx1 hx2 hx3 hr1 c0 hS3;have c0:=hS4.bf.cellAt 0 _ (Aa e _);rw [rZ.o]at c0;have hB4:=hS4.alloc (.cells #[.int .u8 2] 5);have hr4:bF 1 (.slice (some ⟨w4.heap.size,0,none⟩) 1 1) (aA [2]) (w4.alloc (.cells #[.int .u8 2] 5)):=AU w4 #[.int .u8 2] 5 1 1 1 rfl)
    |(at_builtin;refine Bq (w0:=w0) (l:=List.replicate 4 0++aj.le (aj.size e) 4) (m:=[2]) ah _ _ ah ah ah hB4.bf hr4 (by rw [E5.o];simp) yF0 ?_;intro b5 n5 k5 w5 hS5 hx1 hx2 hx3;clear hx1 hx2 hx3 hr4 hB4 hS4 c0;have c0:=hS5.eH.cellAt 0 _ (Aa e _);rw [rZ.o]at c0;have zX:=hS5.eH.cellAt 33 _ (ET e _ Hk.o);have Ap:=Hd.o w5 (hS5.sel 3 [] rfl rfl))
    |(at_builtin;refine Bq (w0:=w0) (l:=List.replicate 4 0++aj.le (aj.size e) 4++[2]) (m:=e.data) ah _ _ ah ah ah hS5 Ap (by rw [aaL,E5.o];have:=HL.o;simp;omega) yF0 ?_;intro b7 n7 k7 w7 hS7 wO Am hk7;have hn4:4<=n7:=(by rw [wO];simp only [aaL,afx];omega);have hk4:¬ k7=4:=(by rw [wO]at Am;simp only [aaL,afx,aep]at Am;omega);have aiw:(4:Int)<=(n7:Int):=oQ;have Eo:=uQ wO;clear wO Ap hS5 zX c0))
   have hbody:List.replicate 4 0++aj.le (aj.size e) 4++[2]++e.data=List.replicate 4 0++aj.body e:=by
    unfold aj.body;rw [acg rZ.o,<-NY.o,aeR.o];simp only [adQ,aeu]
   obtain ⟨XX,PE,MN,Fa⟩:∃ XX:List aG,(∀ w' A,Sat w0 w' (A::XX)->Sat w0 w' (A::F))/\Ro w0 (bQ (.slice (some ⟨b7,0,none⟩) n7 k7) (List.replicate 4 0++aj.body e)::XX) Half/\Sat w0 w7 (bQ (.slice (some ⟨b7,0,none⟩) n7 k7) (List.replicate 4 0++aj.le (aj.size e) 4++[2]++e.data)::XX):=
    ⟨_::_::F,λw' A hw=>hw.sel 3 [0] rfl rfl,Ro.more (L:=[_,_,_]) HH.o,hS7⟩
   clear hS7;have hS7:=Fa;clear Fa;rw [hbody]at hS7 Eo;have hbl:(aj.body e).length<=1099511627776:=by
    have h1:=HL.o;have h2:=Hk.o;unfold aj.body;simp only [aaL,aj.jk,aep,aeL];split <;> simp <;> omega
   have PZ:n7=4+(aj.body e).length:=by rw [Eo.o,aaL,afx]
   have hrb:∀ w',Sat w0 w' (bQ (.slice (some ⟨b7,0,none⟩) n7 k7) (List.replicate 4 0++aj.body e)::XX)->bF 1 (.slice (some ⟨b7,4,none⟩) (n7-4) (k7-4)) (aA (aj.body e)) w':=by
    intro w' hw';have h1:=Rz (lo:=4) (k:=n7-4) (Sat.rd hw') oQ (some ⟨b7,4,none⟩) (by rw [abj hk4];simp [rC]) Am (k7-4);have h2:((aA (List.replicate 4 0++aj.body e)).drop 4).take (n7-4)=aA (aj.body e):=by
     rw [zW,aoa (by simp [aA])];have:(aA (List.replicate 4 0)).drop 4=[]:=by simp [aA]
     rw [this,aeu,ad9 (by rw [aX];omega)]
    rw [h2]at h1;exact h1
   have Ah:=OJ (F:=bQ (.slice (some ⟨b7,0,none⟩) n7 k7) (List.replicate 4 0++aj.body e)::XX) (aj.body e) MN hrb hS7 hbl;have oz:=uQ hbl;clear hrb hbl PZ;go_wp2_with fail;refine Ah.mono ?_;rintro ee w8 ⟨v,rfl,rfl,rfl⟩;clear Ah;have PK:=aj.OL (aj.body e);have Fp:=Dl (aj.crc (aj.body e)) oQ hS7;have hwc:IntKind.u64.wrap (aj.crc (aj.body e):Int)=(aj.crc (aj.body e):Int):=by
    rw [show ∀ n:Int,IntKind.u64.wrap n=n%18446744073709551616 from λn=>by simp [IntKind.wrap,IntKind.bits,IntKind.signed]];omega
   have Qc:(aj.crc (aj.body e):Int)%18446744073709551616=(aj.crc (aj.body e):Int):=by omega
   clear PK;go_wp2_with fail;refine Fp.mono ?_;rintro ee w9 ⟨v,rfl,jW,pb,rfl⟩;clear Fp hwc Qc;have P8:bF 1 (.slice pb 4 4) (aA (aj.le (aj.crc (aj.body e)) 4)) w9:=Sat.rd jW;go_wp2_with (refine adD (w0:=w0) (x:=aj.le (aj.crc (aj.body e)) 4) ah _ _ ah b7 n7 k7 ah ah jW.bf P8 (by intro e0;have:=aj.jk (aj.crc (aj.body e)) 4;rw [e0]at this;cases this) (by rw [aj.jk,aaL,afx];omega) ?_;intro w10 fK)
   go_ret2
   have hfin:aj.encode e=(aj.le (aj.crc (aj.body e)) 4++aj.body e,0):=by unfold aj.encode;rw [abj (by rw [Hc.o];simp)]
   rw [hfin];refine ⟨_,rfl,_,rfl,⟨_,_,_,rfl⟩,?_⟩;have hdr:(List.replicate 4 (0:UInt8)++aj.body e).drop (aj.le (aj.crc (aj.body e)) 4).length=aj.body e:=by
    rw [aj.jk,aoa yF0];simp
   rw [hdr]at fK;exact PE _ _ (fK.sel 2 [0] rfl rfl)
  ·have ht2b:(e.tag==2)=false:=by simpa using ht2
   have rZ:=uQ ht2;clear ht2
   go_wp2_with (first
    |(at_builtin;refine Bq (w0:=w0) (l:=List.replicate 4 0) (m:=aj.le (aj.size e) 4) ah _ _ ah ah ah (hS3.sel 3 [1,2] rfl rfl) hr1 (by rw [Vm.o,afx];omega) yF0 ?_;intro b4 n4 k4 w4 hS4 hx1 hx2 hx3;clear hx1 hx2 hx3 hr1 c0 hS3;have c0:=hS4.bf.cellAt 0 _ (Aa e _);have hB4:=hS4.alloc (.cells #[.int .u8 tb.toNat] 5);have hr4:bF 1 (.slice (some ⟨w4.heap.size,0,none⟩) 1 1) (aA [tb]) (w4.alloc (.cells #[.int .u8 tb.toNat] 5)):=AU w4 #[.int .u8 tb.toNat] 5 1 1 1 rfl)
    |(at_builtin;refine Bq (w0:=w0) (l:=List.replicate 4 0++aj.le (aj.size e) 4) (m:=[tb]) ah _ _ ah ah ah hB4.bf hr4 (by rw [E5.o];simp) yF0 ?_;intro b5 n5 k5 w5 hS5 hx1 hx2 hx3;clear hx1 hx2 hx3 hr4 hB4 hS4 c0;have c0:=hS5.eH.cellAt 0 _ (Aa e _);have zX:=hS5.eH.cellAt 33 _ (ET e _ Hk.o);have Zt:=aje e Hk.o _ hS5.eH)
    |(at_builtin;refine Bq (w0:=w0) (l:=List.replicate 4 0++aj.le (aj.size e) 4++[tb]) (m:=e.key) ah _ _ ah ah ah hS5 Zt (by rw [aaL,E5.o,Hk.o];simp) yF0 ?_;intro b6 n6 k6 w6 hS6 hx1 hx2 hx3;clear hx1 hx2 hx3 Zt hS5 c0 zX;have zX:=hS6.eH.cellAt 33 _ (ET e _ Hk.o);have Ap:=Hd.o w6 (hS6.sel 3 [] rfl rfl))
    |(at_builtin;refine Bq (w0:=w0) (l:=List.replicate 4 0++aj.le (aj.size e) 4++[tb]++e.key) (m:=e.data) ah _ _ ah ah ah hS6 Ap (by rw [aaL,aaL,E5.o,Hk.o];have:=HL.o;simp;omega) yF0 ?_;intro b7 n7 k7 w7 hS7 wO Am hk7;have hn4:4<=n7:=(by rw [wO];simp only [aaL,afx];omega);have hk4:¬ k7=4:=(by rw [wO]at Am;simp only [aaL,afx,aep]at Am;omega);have aiw:(4:Int)<=(n7:Int):=oQ;have Eo:=uQ wO;clear wO Ap hS6 zX))
   have hbody:List.replicate 4 0++aj.le (aj.size e) 4++[tb]++e.key++e.data=List.replicate 4 0++aj.body e:=by
    unfold aj.body;rw [abj rZ.o,NY.o];simp only [adQ]
   obtain ⟨XX,PE,MN,Fa⟩:∃ XX:List aG,(∀ w' A,Sat w0 w' (A::XX)->Sat w0 w' (A::F))/\Ro w0 (bQ (.slice (some ⟨b7,0,none⟩) n7 k7) (List.replicate 4 0++aj.body e)::XX) Half/\Sat w0 w7 (bQ (.slice (some ⟨b7,0,none⟩) n7 k7) (List.replicate 4 0++aj.le (aj.size e) 4++[tb]++e.key++e.data)::XX):=
    ⟨_::_::F,λw' A hw=>hw.sel 3 [0] rfl rfl,Ro.more (L:=[_,_,_]) HH.o,hS7⟩
   clear hS7;have hS7:=Fa;clear Fa;rw [hbody]at hS7 Eo;have hbl:(aj.body e).length<=1099511627776:=by
    have h1:=HL.o;have h2:=Hk.o;unfold aj.body;simp only [aaL,aj.jk,aep,aeL];split <;> simp <;> omega
   have PZ:n7=4+(aj.body e).length:=by rw [Eo.o,aaL,afx]
   have hrb:∀ w',Sat w0 w' (bQ (.slice (some ⟨b7,0,none⟩) n7 k7) (List.replicate 4 0++aj.body e)::XX)->bF 1 (.slice (some ⟨b7,4,none⟩) (n7-4) (k7-4)) (aA (aj.body e)) w':=by
    intro w' hw';have h1:=Rz (lo:=4) (k:=n7-4) (Sat.rd hw') oQ (some ⟨b7,4,none⟩) (by rw [abj hk4];simp [rC]) Am (k7-4);have h2:((aA (List.replicate 4 0++aj.body e)).drop 4).take (n7-4)=aA (aj.body e):=by
     rw [zW,aoa (by simp [aA])];have:(aA (List.replicate 4 0)).drop 4=[]:=by simp [aA]
     rw [this,aeu,ad9 (by rw [aX];omega)]
    rw [h2]at h1;exact h1
   have Ah:=OJ (F:=bQ (.slice (some ⟨b7,0,none⟩) n7 k7) (List.replicate 4 0++aj.body e)::XX) (aj.body e) MN hrb hS7 hbl;have oz:=uQ hbl;clear hrb hbl PZ;go_wp2_with fail;refine Ah.mono ?_;rintro ee w8 ⟨v,rfl,rfl,rfl⟩;clear Ah;have PK:=aj.OL (aj.body e);have Fp:=Dl (aj.crc (aj.body e)) oQ hS7;have hwc:IntKind.u64.wrap (aj.crc (aj.body e):Int)=(aj.crc (aj.body e):Int):=by
    rw [show ∀ n:Int,IntKind.u64.wrap n=n%18446744073709551616 from λn=>by simp [IntKind.wrap,IntKind.bits,IntKind.signed]];omega
   have Qc:(aj.crc (aj.body e):Int)%18446744073709551616=(aj.crc (aj.body e):Int):=by omega
   clear PK;go_wp2_with fail;refine Fp.mono ?_;rintro ee w9 ⟨v,rfl,jW,pb,rfl⟩;clear Fp hwc Qc;have P8:bF 1 (.slice pb 4 4) (aA (aj.le (aj.crc (aj.body e)) 4)) w9:=Sat.rd jW;go_wp2_with (refine adD (w0:=w0) (x:=aj.le (aj.crc (aj.body e)) 4) ah _ _ ah b7 n7 k7 ah ah jW.bf P8 (by intro e0;have:=aj.jk (aj.crc (aj.body e)) 4;rw [e0]at this;cases this) (by rw [aj.jk,aaL,afx];omega) ?_;intro w10 fK)
   go_ret2
   have hfin:aj.encode e=(aj.le (aj.crc (aj.body e)) 4++aj.body e,0):=by unfold aj.encode;rw [abj (by rw [Hc.o];simp)]
   rw [hfin];refine ⟨_,rfl,_,rfl,⟨_,_,_,rfl⟩,?_⟩;have hdr:(List.replicate 4 (0:UInt8)++aj.body e).drop (aj.le (aj.crc (aj.body e)) 4).length=aj.body e:=by
    rw [aj.jk,aoa yF0];simp
   rw [hdr]at fK;exact PE _ _ (fK.sel 2 [0] rfl rfl)
 ·have Hf:=uQ (show aj.encode e=([],aj.check e) by unfold aj.encode;rw [acg hc]);have hcb:(aj.check e==0)=false:=by simpa using hc
  clear hc;generalize aj.check e=E at *
  go_wp2
  go_ret2
  rw [Hf.o];exact ⟨_,rfl,.slice none 0 0,rfl,⟨_,_,_,rfl⟩,Sat.gB.2 hS1.drop⟩
end
end Go.Proofs.Y
namespace Go.Seg
abbrev Bs:=List UInt8
def iW (n:Nat):Nat->Bs
 |0=>[]
 |k+1=>iW (n/10) k++[UInt8.ofNat (48+n%10)]
def lead:Bs:=[115,101,103,46]
def name (n:Int):ByteArray:=if n<0\/1048576<=n then ByteArray.empty else ⟨(lead++iW n.toNat 8).toArray⟩
theorem Xz:∀ k,iW 0 k=List.replicate k 48
 |0=>rfl
 |k+1=>by
  show iW (0/10) k++[UInt8.ofNat (48+0%10)]=_;rw [Nat.zero_div,Xz k,List.replicate_succ',show UInt8.ofNat (48+0%10)=48 from rfl]
theorem wJ (n k:Nat):(iW n k).length=k:=by
 induction k generalizing n with
 |zero=>rfl
 |succ k ih=>simp [iW,ih]
def nJ (c:UInt8):Bool:=decide (48<=c.toNat) && decide (c.toNat<=57)
def val (b:Bs):Nat:=b.foldl (λn c=>10*n+(c.toNat-48)) 0
theorem L8 (b:Bs) (c:UInt8):val (b++[c])=10*val b+(c.toNat-48):=by unfold val;rw [apv];rfl
theorem aoh (k:Nat):∀ n,n<10^k->val (iW n k)=n:=by
 induction k with
 |zero=>intro n h;simp at h;subst h;rfl
 |succ k ih=>
  intro n h;show val (iW (n/10) k++[UInt8.ofNat (48+n%10)])=n;rw [L8,ih (n/10) (by rw [Nat.div_lt_iff_lt_mul oQ];rw [Nat.pow_succ]at h;exact h),ao6];omega
theorem OQ (k:Nat):∀ n,(iW n k).all nJ=true:=by
 induction k with
 |zero=>intro n;rfl
 |succ k ih=>
  intro n;show (iW (n/10) k++[UInt8.ofNat (48+n%10)]).all nJ=true;rw [aiJ,ih,apV];simp only [aql,List.all_nil,Bool.and_true,nJ,ao6];rw [aev,adY,adY];omega
theorem agI (b:Bs) (h:b.all nJ=true):iW (val b) b.length=b:=by
 rw [<-List.reverse_reverse b]at *
 generalize b.reverse=r at *
 induction r with
 |nil=>rfl
 |cons c r ih=>
  rw [List.reverse_cons]at h ⊢;rw [aiJ,aev]at h;have hc:nJ c=true:=by simpa using h.2
  unfold nJ at hc;rw [aev,adY,adY]at hc;rw [L8,aaL,aer];show iW ((10*val r.reverse+(c.toNat-48))/10) r.reverse.length++[UInt8.ofNat (48+(10*val r.reverse+(c.toNat-48))%10)]=_;have e1:(10*val r.reverse+(c.toNat-48))/10=val r.reverse:=by omega
  have e2:48+(10*val r.reverse+(c.toNat-48))%10=c.toNat:=by omega
  rw [e1,e2,ih h.1,UInt8.ofNat_toNat]
theorem aoi (b:Bs) (h:b.all nJ=true):val b<10^b.length:=by
 rw [<-List.reverse_reverse b]at *
 generalize b.reverse=r at *
 induction r with
 |nil=>simp [val]
 |cons c r ih=>
  rw [List.reverse_cons]at h ⊢;rw [aiJ,aev]at h;have hc:nJ c=true:=by simpa using h.2
  unfold nJ at hc;rw [aev,adY,adY]at hc;rw [L8,aaL,aer,Nat.pow_succ];have:=ih h.1;omega
def number (s:ByteArray):Int×Bool:=
 let l:=s.data.toList
 if l.length=12/\l.take 4=lead/\(l.drop 4).all nJ=true/\val (l.drop 4)<1048576 then (val (l.drop 4),true) else (0,false)
end Go.Seg
namespace Go.Proofs.Y
open Go.ay
def mrow (q:Nat) (l:Bs):aG:=pt q (.cells (aA l).toArray 5 (l.length,l.length+1))
theorem J6 {l:Bs} (h:Sat w0 w (mrow q l::F)){i:Nat} (hi:i<l.length) (x:UInt8) :
  w.cell? ⟨q,i,none⟩=some (.int .u8 (l[i]'hi).toNat)/\w.frozen? ⟨q,i,none⟩=false/\Sat w0 (w.setCell ⟨q,i,none⟩ (.int .u8 x.toNat)) (mrow q (l.set i x)::F):=by
 have hb:=h.at;refine ⟨?_,?_,?_⟩
 ·simp only [World.cell?,hb];rw [ace];unfold aA;rw [adW,aay hi];rfl
 ·simp only [World.frozen?,hb];simp;omega
 ·refine h.turn rfl rfl rfl yF0 ?_ ?_
  ·simp only [World.setCell,ajU,apa,hb];simp only [afW,aqh];rw [ai3]
   congr 1
   unfold aA;rw [List.setIfInBounds_toArray,List.map_set,abj yF0]
  ·intro j hj _;simp only [World.setCell,ajU];rw [abj (Ne.symm hj)]
theorem ajT {l:Bs} (h:Sat w0 w (mrow q l::F)) (c:Nat):(convert 39 9 (.slice (some ⟨q,0,none⟩) l.length c)).run prog w=.ok (.string ⟨l.toArray⟩) w:=by
 refine run_convert_bytes_back (P:=prog) w _ _ 5 _ c l underlying39 underlying5 underlying9 (λj hj=>?_);rw [rC];exact (J6 h hj 0).1
theorem yY (n:Int) (h:Sat w0 w F) :
  Calls prog 48 #[.int .i64 n] w (aP λv w'=>v=.string (Seg.name n)/\Sat w0 w' F):=by
 by_cases h1:n<0
 ·have Hf:=uQ (show Seg.name n=ByteArray.empty by unfold Seg.name;rw [acg (.inl h1)]);go_enter func48,ntmps48;go_wp2;go_ret;exact ⟨_,rfl,by rw [Hf.o];rfl,h⟩
 have h1d:decide (n<0)=false:=ad2 h1;by_cases h2:1048576<=n
 ·have Hf:=uQ (show Seg.name n=ByteArray.empty by unfold Seg.name;rw [acg (.inr h2)]);go_enter func48,ntmps48;go_wp2;go_ret;exact ⟨_,rfl,by rw [Hf.o];rfl,h⟩
 have EZ:decide (1048576<=n)=false:=ad2 h2;obtain ⟨m0,rfl⟩:=Int.eq_ofNat_of_zero_le (show 0<=n by omega);have Hf:=uQ (show Seg.name (m0:Int)=⟨(Seg.lead++Seg.iW m0 8).toArray⟩ by unfold Seg.name;rw [abj oQ];rfl);have hm0:m0<10^8:=by omega
 have Hm:=uQ hm0;have hcv:=Lib.run_convert_bytes_const (P:=prog) w 39 5 #[.int .u8 115,.int .u8 101,.int .u8 103,.int .u8 46,.int .u8 48,.int .u8 48,.int .u8 48,.int .u8 48,.int .u8 48,.int .u8 48,.int .u8 48,.int .u8 48] 12 12 underlying39 underlying5;have hB:Sat w0 (w.alloc (.cells #[.int .u8 115,.int .u8 101,.int .u8 103,.int .u8 46,.int .u8 48,.int .u8 48,.int .u8 48,.int .u8 48,.int .u8 48,.int .u8 48,.int .u8 48,.int .u8 48] 5 (12,13))) (mrow w.heap.size (Seg.lead++List.replicate 8 48)::F):=h.alloc _;simp only [abn,aep,aeL,ad8,Nat.reduceAdd]at hcv;clear hm0;go_enter func48,ntmps48;go_wp2_with fail;clear h1 h2 h1d EZ;generalize w.heap.size=q at *
 go_loopg [0,4] 8 (λg nv iq wr=>∃ (k m:Nat) (tail:Bs),g=k/\k<=8/\nv=.int .i64 m/\iq=.int .i64 ((k:Int)+3)/\m<10^k/\Seg.lead++Seg.iW m0 8=Seg.lead++Seg.iW m k++tail/\tail.length=8-k /\
  Sat w0 wr (mrow q (Seg.lead++List.replicate k 48++tail)::F))
 case atStart=>exact ⟨8,m0,[],rfl,abl _,rfl,rfl,Hm.o,by simp,rfl,by simpa using hB⟩
 case round=>
  obtain ⟨k,m,tail,hgk,hk,rfl,rfl,hm,hfin,htl,hS⟩:=hrel;have aio:=hgk.symm;subst aio;have bH:=uQ hfin;have nG:=uQ htl;clear hB hfin htl;by_cases hp:0<m
  ·obtain ⟨k',rfl⟩:∃ k',k=k'+1:=by
    cases k with
    |zero=>simp at hm;omega
    |succ k'=>exact ⟨k',rfl⟩
   have hlen:(Seg.lead++List.replicate (k'+1) 48++tail).length=12:=by
    have:=nG.o;simp [Seg.lead];omega
   have hidx:k'+4<(Seg.lead++List.replicate (k'+1) 48++tail).length:=by omega
   obtain ⟨e0,e1,hS5⟩:=J6 hS hidx (UInt8.ofNat (48+m%10));generalize (Seg.lead++List.replicate (k'+1) 48++tail)[k'+4]'hidx=old at e0;have hpi:(0:Int)<(m:Int):=by omega
   have hki:(k':Int)+4<12:=by omega
   have hdg:48+(m:Int)%10=((UInt8.ofNat (48+m%10)).toNat:Int):=by rw [ao6];omega
   have hm2:m<10*10^k':=by rw [Nat.pow_succ]at hm;omega
   have hbig:10^(k'+1)<=10^8:=ao7 aN hk;have hw1:IntKind.i64.wrap ((m:Int)/10)=(m:Int)/10:=by rw [aeU];omega
   have Hm2:=uQ hm2;have Hdg:=uQ (show Seg.iW m (k'+1)=Seg.iW (m/10) k'++[UInt8.ofNat (48+m%10)] by rfl);have hc3:((k'+1:Nat):Int)+3=(k':Int)+4:=by omega
   rw [hc3];clear hm hm2 hlen hidx hbig;generalize UInt8.ofNat (48+m%10)=dg at *
   go_wp2_with fail
   go_roundg k'
   case rel=>
    refine ⟨k',m/10,dg::tail,rfl,by omega,?_,?_,?_,?_,?_,?_⟩
    ·congr 1
    ·congr 1;omega
    ·have:=Hm2.o;omega
    ·rw [bH.o,Hdg.o];simp
    ·have:=nG.o;simp;omega
    ·have e:(Seg.lead++List.replicate (k'+1) 48++tail).set (k'+4) dg=Seg.lead++List.replicate k' 48++dg::tail:=by
      have hl:(Seg.lead++List.replicate k' (48:UInt8)).length=k'+4:=by simp only [Seg.lead,aaL,afx,aep,aeL];omega
      rw [List.replicate_succ',<-adQ,adQ (Seg.lead++List.replicate k' 48),List.set_append_right _ _ oQ,hl,ajN]
      rfl
     rw [<-e];exact hS5
   case measure=>omega
  ·have hm0:m=0:=by omega
   subst hm0;have htx:=ajT hS 12;have hlen:(Seg.lead++List.replicate k 48++tail).length=12:=by
    have:=nG.o;simp [Seg.lead];omega
   rw [hlen]at htx;clear hm;go_wp2;go_ret;refine ⟨_,rfl,?_,hS.drop⟩;rw [Hf.o,bH.o,Seg.Xz];simp
theorem Ov (s:ByteArray):(s.extract 0 4).toList=s.data.toList.take 4:=by
 rw [Go.Lib.extract_toList];simp
theorem afy (s:ByteArray) (h:s.size=12):(s.extract 4 12).data.toList=s.data.toList.drop 4:=by
 rw [Go.Lib.extract_data];refine ad9 ?_;have:s.data.toList.length=12:=by rw [ad4];exact h
 rw [ad3];omega
theorem TI (s:ByteArray) (h:Sat w0 w F) :
  Calls prog 103 #[.string s] w (aP λv w'=>v=.tuple #[.int .i64 (Seg.number s).1,.bool (Seg.number s).2]/\Sat w0 w' F):=by
 by_cases h1:s.size=12
 ·have hs:((s.size:Int)=12):=by omega
  have h1d:decide ((s.size:Int)=12)=true:=aeb hs;by_cases h2:s.data.toList.take 4=Seg.lead
  ·have EZ:((s.extract 0 4).toList==[115,101,103,46])=true:=by rw [Ov s,h2];rfl
   have hN:=uQ (show Seg.number s=if (s.data.toList.drop 4).all Seg.nJ=true/\Seg.val (s.data.toList.drop 4)<1048576 then ((Seg.val (s.data.toList.drop 4):Int),true) else (0,false) by
    unfold Seg.number;simp only [ad4,show s.data.size=12 from h1,h2,true_and])
   have Hb:=uQ (afy s h1);have hcv:=run_bytes_of_string (P:=prog) w 9 39 5 (s.extract 4 12) underlying9 underlying39 underlying5;have hz:(s.extract 4 12).size=8:=by simp [ByteArray.size_extract,h1]
   have hcell:∀ (i:Nat) (hi:i<8),((w.alloc (.cells (bytesRow (s.extract 4 12) (grownCap w (s.extract 4 12).size 0 5)) 5 ((bytesRow (s.extract 4 12) (grownCap w (s.extract 4 12).size 0 5)).size,(bytesRow (s.extract 4 12) (grownCap w (s.extract 4 12).size 0 5)).size+1))).drew).cell? ⟨w.heap.size,0+i,none⟩=some (.int .u8 ((s.extract 4 12).data[i]'(by have:(s.extract 4 12).data.size=8:=hz;omega)).toNat):=by
    intro i hi;rw [ad8];exact (World.cell?_alloc_mark w.drew _ _ _ _).trans (bytesRow_at _ _ _ _)
   have hB:Sat w0 ((w.alloc (.cells (bytesRow (s.extract 4 12) (grownCap w (s.extract 4 12).size 0 5)) 5 ((bytesRow (s.extract 4 12) (grownCap w (s.extract 4 12).size 0 5)).size,(bytesRow (s.extract 4 12) (grownCap w (s.extract 4 12).size 0 5)).size+1))).drew) F:=(h.drew.alloc _).drop;rw [hz]at hcv hcell hB;have Hlen:=uQ (show (s.data.toList.drop 4).length=8 by rw [ad3,ad4,show s.data.size=12 from h1]);have hcell':∀ (i:Nat) (hi:i<(s.data.toList.drop 4).length),((w.alloc (.cells (bytesRow (s.extract 4 12) (grownCap w 8 0 5)) 5 ((bytesRow (s.extract 4 12) (grownCap w 8 0 5)).size,(bytesRow (s.extract 4 12) (grownCap w 8 0 5)).size+1))).drew).cell? ⟨w.heap.size,0+i,none⟩=some (.int .u8 ((s.data.toList.drop 4)[i]'hi).toNat):=by
    intro i hi;rw [hcell i (by rw [<-Hlen.o];exact hi)]
    congr 4
    have:=Hb.o;rw [<-Array.getElem_toList];exact getElem_congr this rfl _
   clear hcell;generalize grownCap w 8 0 5=cap at *
   generalize s.data.toList.drop 4=l at *
   go_enter func103,ntmps103;go_wp2_with fail;clear hcv h1d EZ hs h1 h2;generalize World.drew _=wb at *
   generalize w.heap.size=q at *
   go_loopg [4,19] 8 (λg nv iq wr=>∃ i:Nat,g=8-i/\i<=8/\nv=.int .i64 (Seg.val (l.take i))/\iq=.int .i64 i/\(l.take i).all Seg.nJ=true/\wr=wb)
   case atStart=>exact ⟨0,rfl,by omega,rfl,rfl,rfl,rfl⟩
   case round=>
    obtain ⟨i,rfl,hi,rfl,rfl,hall,rfl⟩:=hrel;have vV:=uQ hall;clear hall;by_cases hi':i<8
    ·have hil:i<l.length:=by have:=Hlen.o;omega
     have hc:=hcell' i hil;rw [ad8]at hc;have Hc:=uQ (apT hil);have hii:(i:Int)<8:=by omega
     have Hn:=uQ (show Seg.val (l.take (i+1))=10*Seg.val (l.take i)+(l[i].toNat-48) by rw [ahI hil,Seg.L8]);have Hd:=uQ (show (l.take (i+1)).all Seg.nJ=Seg.nJ l[i] by rw [ahI hil,aiJ,vV.o,apV];simp);have Hv:=uQ (Seg.aoi _ vV.o);generalize l[i]=c at *
     by_cases hd:Seg.nJ c=true
     ·have hd':=hd;unfold Seg.nJ at hd';rw [aev,adY,adY]at hd';have b1:¬ c.toNat<48:=by omega
      have b2:¬ 57<c.toNat:=by omega
      have b3:(c.toNat:Int)-48=((c.toNat-48:Nat):Int):=by omega
      have aiI:Seg.val (l.take i)<100000000:=by
       have:=Hv.o;rw [ads]at this;exact aqa this (ao7 aN oQ:_<=10^8)
      have Nb:=uQ hd';have b4:IntKind.i64.wrap (10*(Seg.val (l.take i):Int))=10*(Seg.val (l.take i):Int):=by rw [aeU];omega
      have b5:IntKind.i64.wrap (10*(Seg.val (l.take i):Int)+((c.toNat-48:Nat):Int))=10*(Seg.val (l.take i):Int)+((c.toNat-48:Nat):Int):=by rw [aeU];omega
      have b6:IntKind.i64.wrap ((i:Int)+1)=(i:Int)+1:=by rw [aeU];omega
      clear aiI hd' hcell';generalize c.toNat-48=d at *
      go_wp2_with fail
      go_roundg (8-(i+1))
      case measure=>omega
      case rel=>
       refine ⟨i+1,rfl,by omega,?_,rfl,by rw [Hd.o,hd],rfl⟩;rw [Hn.o];rfl
     ·have hno:¬ (l.all Seg.nJ=true/\Seg.val l<1048576):=λhh=>hd (ae0.1 hh.1 _ Hc.o);have YK:=uQ (hN.o.trans (abj hno));have hd':=hd;unfold Seg.nJ at hd';rw [aev,adY,adY]at hd';clear hcell' hno Hn Hd;by_cases b1:c.toNat<48
      ·clear hd';go_wp2
       go_ret2
       exact ⟨_,rfl,by rw [YK.o];rfl,hB⟩
      ·have b2:57<c.toNat:=by omega
       clear hd';go_wp2
       go_ret2
       exact ⟨_,rfl,by rw [YK.o];rfl,hB⟩
    ·obtain rfl:i=8:=by omega
     have hc8:((8:Nat):Int)=8:=rfl;rw [hc8];clear hc8 hi;have htk:=uQ (show l.take 8=l from ad9 yM0)
     have hN3:=uQ (show Seg.number s=if Seg.val l<1048576 then ((Seg.val l:Int),true) else (0,false) by
      have:=vV.o;rw [htk.o]at this;rw [hN.o];simp only [this,true_and])
     rw [htk.o];clear hcell' hi';obtain ⟨V,hV⟩:∃ V:Int,V=(Seg.val l:Int):=⟨_,rfl⟩;have HV:=uQ hV;rw [<-hV];by_cases hv:1048576<=V
     ·have hvd:decide (1048576<=V)=true:=aeb hv;have Hv:=uQ hv;clear hv hV;go_wp2
      go_ret2
      exact ⟨_,rfl,by rw [hN3.o,abj (by have:=Hv.o;have:=HV.o;omega)];rfl,hB⟩
     ·have hvd:decide (1048576<=V)=false:=ad2 hv;have Hv:=uQ hv;clear hv hV;go_wp2
      go_ret2
      exact ⟨_,rfl,by rw [hN3.o,acg (by have:=Hv.o;have:=HV.o;omega),<-HV.o];rfl,hB⟩
  ·have EZ:((s.extract 0 4).toList==[115,101,103,46])=false:=by rw [Ov s];exact aiM h2
   have hN:=uQ (show Seg.number s=(0,false) by
    unfold Seg.number;simp only [h2,false_and,and_false,apA])
   go_enter func103,ntmps103;go_wp2
   go_ret2
   exact ⟨_,rfl,by rw [hN.o];rfl,h⟩
 ·have hs:¬ ((s.size:Int)=12):=by omega
  have h1d:decide ((s.size:Int)=12)=false:=ad2 hs
  have hN:=uQ (show Seg.number s=(0,false) by
    unfold Seg.number;simp only [ad4,show ¬ s.data.size=12 from h1,false_and,apA])
  go_enter func103,ntmps103;go_wp2
  go_ret2
  exact ⟨_,rfl,by rw [hN.o];rfl,h⟩
end Go.Proofs.Y
namespace Go.Seg
open Go.ay
structure Log where
 limit:Int
 l:List (Int×Int)
 on:Bool
 fresh:Int
def alive (M:ay):Int:=if (M.size ByteArray.empty).2=9 then 0 else (M.size ByteArray.empty).2
def found (M:ay) (l:List ByteArray):List (Int×Int):=l.filterMap λs=>if (number s).2=true then some ((number s).1,(M.size s).1) else none
def fresh (M:ay) (limit:Int):Log:=⟨limit,found M M.list,false,0⟩
theorem ahB (M:ay) (l:List ByteArray) (s:ByteArray):found M (l++[s])=found M l++(if (number s).2=true then [((number s).1,(M.size s).1)] else []):=by
 unfold found;rw [List.filterMap_append]
 congr 1
 by_cases h:(number s).2=true <;> simp [h]
theorem ahA (M:ay) (l:List ByteArray):(found M l).length<=l.length:=List.length_filterMap_le _ _
end Go.Seg
namespace Go.Proofs.Y
open Go.ay
def eY (l:List (Int×Int)):List Value:=l.flatMap λs=>[.int .i64 s.1,.int .i64 s.2]
abbrev nK (p m:Nat) (L:Seg.Log) (lv:Value):aG:=pt p (.cells #[ptr m,.int .i64 L.limit,lv,.bool L.on,.int .i64 L.fresh] 99 (0,0))
def BO (p m:Nat) (L:Seg.Log) (lv:Value):List aG:=[nK p m L lv,aC 105 2 lv (eY L.l)]
def aK (p m:Nat) (L:Seg.Log):aG:=λh=>∃ lv,stars (BO p m L lv) h
theorem ZK:(prog.info? 105).map (λi=>(i.zero,i.size,i.bytes))=some (some (.agg #[.int .i64 0,.int .i64 0]),2,16):=by kernel_rfl
section
variable {p:Nat}{L:Seg.Log}
theorem aK.open (h:Sat w0 w (aK p m L::F)):∃ lv,Sat w0 w (BO p m L lv++F):=by
 obtain ⟨ha,x,hx,p,q,d,rfl,⟨lv,hp⟩,hq⟩:=h;refine ⟨lv,ha,_,hx,?_⟩;rw [qO];exact ⟨p,q,d,rfl,hp,hq⟩
theorem aK.shut (h:Sat w0 w (BO p m L lv++F)):Sat w0 w (aK p m L::F):=
 h.join λ_ hx=>⟨lv,hx⟩
theorem lD (l:List (Int×Int)):(eY l).length=2*l.length:=by
 unfold eY
 induction l with
 |nil=>rfl
 |cons a l ih=>rw [ael,aaL,ih];simp;omega
theorem AY (l k:List (Int×Int)):eY (l++k)=eY l++eY k:=by unfold eY;rw [aeB]
theorem afc (hM:M.Ok K) (h:Sat w0 w (aJ m M::F)) :
  Calls prog 101 #[ptr m] w (aP λv w'=>v=errno (Seg.alive M)/\w=w'):=by
 have hs:=Gt hM h ByteArray.empty;have Ec:=uQ (show Seg.alive M=if (M.size ByteArray.empty).2=9 then 0 else (M.size ByteArray.empty).2 from rfl);generalize (M.size ByteArray.empty).2=e at *
 generalize (M.size ByteArray.empty).1=n at *
 by_cases he:e=9
 ·subst he;go_enter func101,ntmps101;go_wp2_with fail;refine hs.mono ?_;rintro e w1 ⟨v,rfl,rfl,rfl⟩;clear hs;go_wp2;go_ret;exact ⟨_,rfl,by rw [Ec.o];rfl,rfl⟩
 ·have hed:(e==9)=false:=aiM he;have He:=uQ he;clear he;go_enter func101,ntmps101;go_wp2_with fail;refine hs.mono ?_;rintro e w1 ⟨v,rfl,rfl,rfl⟩;clear hs;go_wp2;go_ret;exact ⟨_,rfl,by rw [Ec.o,abj He.o];rfl,rfl⟩
theorem aky (hM:M.Ok K) (limit:Int) (h:Sat w0 w (aJ m M::F)) (ha:Seg.alive M=0) (h1:128<=limit) (h2:limit<=1048576) :
  Calls prog 56 #[ptr m,.int .i64 limit] w (aP λv w'=>∃ p,v=.tuple #[ptr p,errno 0]/\Sat w0 w' (aK p m (Seg.fresh M limit)::aJ m M::F)):=by
 have hal:=afc hM h;rw [ha]at hal;have hd1:decide (limit<128)=false:=ad2 oQ;have hd2:decide (1048576<limit)=false:=ad2 oQ;obtain ⟨i,hi,hz0,hz1,hz2⟩:=info_parts ZK
 have hll:=uQ (show M.list.length<=500 by
  unfold ay.list;split
  ·simp
  ·rw [aa4];exact hM.ig.len)
 clear h1 h2 ha;go_enter func56,ntmps56;go_wp2_with fail;refine hal.mono ?_;rintro e w1 ⟨v,rfl,rfl,rfl⟩;clear hal;have hB:=h.alloc (.cells #[ptr m,.int .i64 limit,.slice none 0 0,.bool false,.int .i64 0] 99);have hL:=JY hM hB.bf;go_wp2_with fail;refine hL.mono ?_;rintro e w2 ⟨v,rfl,hS,ba,bn,bc,rfl⟩;have hlen:bn=M.list.length:=by
  obtain ⟨a',n',c',he,hl,_⟩:=Sat.rd hS;cases he;rw [anx,aes]at hl;exact hl.symm
 clear hL hB;subst hlen;generalize w.heap.size=q at *
 go_wp2_with fail
 go_loopg [32] M.list.length (λg iq wr=>∃ (i:Nat) (lv:Value),g=M.list.length-i/\i<=M.list.length/\iq=.int .i64 i/\Sat w0 wr (BO q m ⟨limit,Seg.found M (M.list.take i),false,0⟩ lv++aC 9 1 (.slice ba M.list.length bc) (strs M.list)::aJ m M::F))
 case atStart=>exact ⟨0,.slice none 0 0,rfl,aea _,rfl,by
  have:=Sat.gB (T:=105) (sz:=2) |>.2 hS;exact this.sel 4 [3,0,1,2] rfl rfl⟩
 case round=>
  obtain ⟨j,lv,rfl,hj,rfl,hR⟩:=hrel;clear hS;by_cases hj':j<M.list.length
  ·have hx:M.list[j]?=some (M.list[j]'hj'):=aay hj';have hcx:=Sat.rd (hR.sel 3 [2] rfl rfl);obtain ⟨bk,off,hba,c1⟩:=Du hcx (anv hx)
   have oC:=uQ (show Seg.found M (M.list.take (j+1))=Seg.found M (M.list.take j)++(if (Seg.number M.list[j]).2=true then [((Seg.number M.list[j]).1,(M.size M.list[j]).1)] else []) by
    rw [ahI hj',Seg.ahB])
   have hnum:=TI M.list[j] hR;have sV:=uQ (Seg.ahA M (M.list.take j));generalize M.list[j]=s at *
   have hic:(j:Int)<(M.list.length:Int):=by omega
   have hjl:=uQ hj';clear hx hcx hj';subst hba;go_wp2_with fail;refine hnum.mono ?_;rintro e w3 ⟨v,rfl,rfl,JC⟩;clear hnum;have hwi:IntKind.i64.wrap ((j:Int)+1)=(j:Int)+1:=adr _ (by have:=hll.o;have:=hjl.o;omega);cases hb:(Seg.number s).2
   ·have Hb:=uQ hb;clear hb;go_wp2
    go_roundg (M.list.length-(j+1))
    case measure=>have:=hjl.o;omega
    case rel=>
     refine ⟨j+1,lv,rfl,aec hjl.o,by first|rfl|go_num,?_⟩;rw [oC.o,Hb.o,abj aN,adV];exact JC
   ·have Hb:=uQ hb;clear hb;have hsz:=Gt hM (JC.sel 4 [3,0,1,2] rfl rfl) s;go_wp2_with fail;refine hsz.mono ?_;rintro e w4 ⟨v,rfl,rfl,rfl⟩;clear hsz;have c2:=JC.cellAt 2 _ rfl;generalize (M.size s).1=sz at *
    generalize (M.size s).2=se at *
    generalize (Seg.number s).1=nu at *
    have h7:=JC.alloc (.cells #[.int .i64 nu,.int .i64 sz] 105);have hoc:∀ u∈(#[.int .i64 nu,.int .i64 sz]:Array Value).toList,u.oneCell'=true:=by
     intro u hu;simp only [ad5,ah4,apX]at hu;rcases hu with rfl|rfl <;> rfl
    have hlen:(eY (Seg.found M (M.list.take j))).length<=2*500:=by
     rw [lD];have:=sV.o;have:=hll.o;rw [ads]at *;omega
    have h63:(eY (Seg.found M (M.list.take j))).length+2<=maxLen:=by unfold maxLen;omega
    have hby:((eY (Seg.found M (M.list.take j))).length+2)*i.bytes<=140737488355328:=by rw [hz2];omega
    have h8:Sat w0 _ (aC 105 2 lv (eY (Seg.found M (M.list.take j)))::nK q m ⟨limit,Seg.found M (M.list.take j),false,0⟩ lv::aC 9 1 (.slice (some ⟨bk,off,none⟩) M.list.length bc) (strs M.list)::aJ m M::F):=h7.sel 5 [2,1,3,4] rfl rfl;clear hlen;go_wp2_with (at_builtin;go_must (refine zo (w0:=w0) ah _ _ _ ah _ i _ underlying97 hi hz0 hz1 ah oQ ah ah hoc h8 (AU _ _ _ 2 1 1 ah) h63 hby ?_);intro v2 w5 hS5 hne;obtain ⟨ab,an,ac,rfl⟩:=hne yF0;have e2:=hS5.bf.cellAt 2 _ rfl;have g2:=hS5.bf.pY 2);have hS6:=hS5.bf.set 2 (.slice (some ⟨ab,0,none⟩) an ac);generalize w5.setCell _ _=w6 at *
    go_roundg (M.list.length-(j+1))
    case measure=>have:=hjl.o;omega
    case rel=>
     refine ⟨j+1,.slice (some ⟨ab,0,none⟩) an ac,rfl,aec hjl.o,by first|rfl|go_num,?_⟩;rw [oC.o,Hb.o,acg rfl];unfold BO;rw [AY];exact hS6
  ·obtain rfl:j=M.list.length:=by omega
   have hic:¬ (M.list.length:Int)<(M.list.length:Int):=by omega
   rw [aeo]at hR;clear hj hj';go_wp2
   go_ret2
   refine ⟨_,rfl,q,rfl,?_⟩;exact aK.shut (hR.sel 4 [0,1,3] rfl rfl)
end
end Go.Proofs.Y
