import Derived.Test.YtiglchkhikciiaaGreatDoorJ1
import Derived.Sort.Walk0
import Derived.Laws.BitsAllLaws
import Derived.Laws.Strings
import Derived.Deep.Slices
import Derived.WalkKit
import Derived.ProofKit
import Derived.OpenShut
import Derived.ShutString
import Derived.ChangeOld
import Derived.Below
import Derived.ChangeKeysEq
import Derived.Laws.Rows
import Derived.Laws.OwnMore
import Derived.Laws.CopyOwn
import Derived.Lib.SlBytesConst
import Derived.Laws.IdiomStrings
namespace Go.Sl
open Go
theorem iO {α : Type} : (∀ (l : List α) (i : Nat) (h : i < l.toArray.size), l.toArray[i]'h = l[i]'(by simpa using h)) ∧ (∀ (x : α) (l : List α) (i : Nat) (h : i + 1 < (x :: l).length), (x :: l)[i + 1]'h = l[i]'(by simpa using h)) ∧ (∀ (x : α) (l : List α) (h : 0 < (x :: l).length), (x :: l)[0]'h = x) := ⟨fun _ _ h => List.getElem_toArray h, fun _ _ _ _ => rfl, fun _ _ _ => rfl⟩
section
variable {P : Program} {ops : Array Oper} {Q : Exit → Act → World → Prop} {late : List Nat} {G : World → Prop}
theorem wdQ {n : Nat} {l : Array Bool} {a : Act} {w : World} (h : Q .normal a w) (hr : Region.ready .any ops l = [] := by kernel_rfl) : iI P ops Q late G n l a w := dD hr h
theorem wpQ (i : Nat) {oi : Oper} {v : Value} {n : Nat} {l : Array Bool} {a : Act} {w : World} (hi : ops[i]? = some oi := by rfl) (hc : (Region.noSelect ops && Region.free .any ops l i && (Region.ready .any ops l).contains i && sK ops l) = true := by kernel_rfl) (hQ : ∀ c a w, Q (.panic c) (a.put oi.dst v) w → Q (.panic c) a w := by intro _ _ _ h; exact h) (hw : Region.wanted oi (yielded ops a.tmps) = true := by rfl) (hx : ∀ w, (execOp a.eval oi).run P w = .ok (.value v) w := by ((intro wq; go_simp); first | done | (with_reducible rfl))) (h : iI P ops Q late G n (l.setIfInBounds i true) (a.put oi.dst v) w) : iI P ops Q late G (n + 1) l a w := fA hi hc hQ (.inl ⟨hw, hx⟩) h
end
end Go.Sl
set_option linter.unusedVariables false
set_option maxHeartbeats 128000000
namespace Go.Proofs.YtiglchkhikciiaaGreatDoor
open Go Go.Sl Go.ay Go.MapKept Go.RowKit
section
variable {w0 w:World}{F:List aG}{m fb nb b r:Nat}{M:ay}{bs:List Nat}{wv v bv:Value}{s:ByteArray}{l:Names}{fs:List bC}{K:Nat}
theorem Ai (hM:M.Ok K) (h:Sat w0 w (aH m M::F)) (s:ByteArray) :
  Calls Tryz.prog 55 #[ptr m,.string s] w (aO fun v w'=>v = .tuple #[.int .i64 (M.size s).1,errno (M.size s).2]∧w=w'):=by
 obtain ⟨bs,fb,nb,wv,hl,hR⟩:=aH.open h
 cases ho:M.off
 ·cases hn:bP M.now s with
  |none=>
   have hf:=xY (s:=s) hR ho hn
   have bH:Hid (M.size s=(0,9)):=by show _=_;simp [ay.size,ho,hn]
   clear ho hn
   go_enter Tryz.func55,Tryz.ntmps55
   go_wp2_with (go_at_call 103;refine hf.mono ?_;rintro e w1 ⟨v,rfl,rfl,rfl⟩)
   go_ret2
   exact ⟨_,rfl,by rw [bH.out];rfl,rfl⟩
  |some i=>
   have hf:=x8 (s:=s) hR ho hn
   have hid:i<M.files.length:=hM.fH.ids (s,i) (jk hn)
   obtain ⟨fa,fn,fc,na,nc,wv',f0,f1,f2,_,_,_,hna⟩:=ET (hR.sel 3 [2] rfl rfl) hl hid
   have bH:Hid (M.size s=(((M.file i).now.length:Int),0)):=by show _=_;simp [ay.size,ho,hn]
   clear ho hn hna
   change w.cell? ⟨bs.getD i 0,1,none⟩=some (.slice na (M.file i).now.length nc) at f1
   generalize bs.getD i 0=q at *
   go_enter Tryz.func55,Tryz.ntmps55
   go_wp2_with (go_at_call 103;refine hf.mono ?_;rintro e w1 ⟨v,rfl,rfl,rfl⟩)
   go_ret2
   refine ⟨.tuple #[.int .i64 (M.file i).now.length,errno 0],rfl,?_,rfl⟩
   rw [bH.out]
 ·have hf:=xZ (s:=s) hR ho
  have bH:Hid (M.size s=(0,12)):=by show _=_;simp [ay.size,ho]
  clear ho
  go_enter Tryz.func55,Tryz.ntmps55
  go_wp2_with (go_at_call 103;refine hf.mono ?_;rintro e w1 ⟨v,rfl,rfl,rfl⟩)
  go_ret2
  exact ⟨_,rfl,by rw [bH.out];rfl,rfl⟩
theorem JE (hM:M.Ok K) (h:Sat w0 w (aH m M::F)) (s:ByteArray) :
  Calls Tryz.prog 76 #[ptr m,.string s] w (aO fun v w'=>∃ bv,v = .tuple #[bv,errno (M.all s).2]∧Sat w0 w' (bJ bv (M.all s).1::aH m M::F)):=by
 obtain ⟨bs,fb,nb,wv,hl,hR⟩:=aH.open h
 cases ho:M.off
 ·cases hn:bP M.now s with
  |none=>
   have hf:=xY (s:=s) hR ho hn
   have bH:Hid (M.all s=([],9)):=by show _=_;simp [ay.all,ho,hn]
   clear ho hn
   go_enter Tryz.func76,Tryz.ntmps76
   go_wp2_with (go_at_call 103;refine hf.mono ?_;rintro e w1 ⟨v,rfl,rfl,rfl⟩)
   go_ret2
   exact ⟨_,rfl,.slice none 0 0,by rw [bH.out];rfl,by rw [bH.out];exact Sat.fD.2 h⟩
  |some i=>
   have hf:=x8 (s:=s) hR ho hn
   have hid:i<M.files.length:=hM.fH.ids (s,i) (jk hn)
   obtain ⟨fa,fn,fc,na,nc,wv',f0,f1,f2,hrd,hcap,hnc,hna⟩:=ET (hR.sel 3 [2] rfl rfl) hl hid
   have hcl:=tZ h hrd (by have:=(hM.file i).su;unfold ay.file at this;omega)
   have bH:Hid (M.all s=((M.file i).now,0)):=by show _=_;simp [ay.all,ho,hn]
   clear ho hn hrd hcap hnc hna
   change w.cell? ⟨bs.getD i 0,1,none⟩=some (.slice na (M.file i).now.length nc) at f1
   change Calls _ _ #[.slice na (M.file i).now.length nc] _ _ at hcl
   generalize bs.getD i 0=q at *
   go_enter Tryz.func76,Tryz.ntmps76
   go_wp2_with (first
    |(go_at_call 103;refine hf.mono ?_;rintro e w1 ⟨v,rfl,rfl,rfl⟩)
    |(go_at_call 102;refine hcl.mono ?_;rintro e w1 ⟨v,rfl,hS,_⟩))
   go_ret2
   exact ⟨_,rfl,v,by rw [bH.out];rfl,by rw [bH.out];exact hS⟩
 ·have hf:=xZ (s:=s) hR ho
  have bH:Hid (M.all s=([],12)):=by show _=_;simp [ay.all,ho]
  clear ho
  go_enter Tryz.func76,Tryz.ntmps76
  go_wp2_with (go_at_call 103;refine hf.mono ?_;rintro e w1 ⟨v,rfl,rfl,rfl⟩)
  go_ret2
  exact ⟨_,rfl,.slice none 0 0,by rw [bH.out];rfl,by rw [bH.out];exact Sat.fD.2 h⟩
theorem MV {a:Option Addr}{n c lo k:Nat}{xs:List Value} (h:bg 1 (.slice a n c) xs w) (hk:lo+k≤n) (x:Option Addr) (hx:x=if c=lo then a else a.map (·.add lo)) (hc:n≤c) (c':Nat):bg 1 (.slice x k c') ((xs.drop lo).take k) w:=by
 obtain ⟨a',n',c'',he,hl,hcell⟩:=h
 cases he
 rw [aiw]at hl
 refine ⟨x,k,c',rfl,by simp;omega,fun i y hi=>?_⟩
 rw [ajl]at hi
 split at hi
 ·rename_i hik
  rw [akG]at hi
  obtain ⟨b,hb,hy⟩:=hcell _ y hi
  subst hb
  have:¬ c=lo:=by omega
  rw [abw this]at hx
  refine ⟨b.add lo,by simpa using hx,?_⟩
  have:(b.add lo).add i=b.add (lo+i):=by
   unfold Addr.add
   by_cases h1:lo=0
   ·subst h1;simp
   ·by_cases h2:i=0
    ·subst h2;simp
    ·simp [h1,h2];omega
  rw [this];exact hy
 ·cases hi
theorem afX (hM:M.Ok K) (h:Sat w0 w (aH m M::F)) (s:ByteArray) (at_ n:Int) (ha : -9223372036854775808≤at_∧at_≤9223372036854775807) (hn : -9223372036854775808≤n∧n≤9223372036854775807) :
  Calls Tryz.prog 156 #[ptr m,.string s,.int .i64 at_,.int .i64 n] w (aO fun v w'=>∃ bv,v = .tuple #[bv,errno (M.read s at_ n).2]∧Sat w0 w' (bJ bv (M.read s at_ n).1::aH m M::F)):=by
 obtain ⟨bs,fb,nb,wv,hl,hR⟩:=aH.open h
 obtain ⟨ha1,ha2⟩:=ha
 obtain ⟨hn1,hn2⟩:=hn
 cases ho:M.off
 ·cases hg:bP M.now s with
  |none=>
   have hf:=xY (s:=s) hR ho hg
   have bH:Hid (M.read s at_ n=([],9)):=by show _=_;simp [ay.read,ho,hg]
   clear ho hg
   go_enter Tryz.func156,Tryz.ntmps156
   go_wp2_with (go_at_call 103;refine hf.mono ?_;rintro e w1 ⟨v,rfl,rfl,rfl⟩)
   go_ret2
   exact ⟨_,rfl,.slice none 0 0,by rw [bH.out];rfl,by rw [bH.out];exact Sat.fD.2 h⟩
  |some i=>
   have hf:=x8 (s:=s) hR ho hg
   have hid:i<M.files.length:=hM.fH.ids (s,i) (jk hg)
   obtain ⟨fa,fn,fc,na,nc,wv',f0,f1,f2,hrd,hcap,hnc,hna⟩:=ET (hR.sel 3 [2] rfl rfl) hl hid
   have hnl:=(hM.file i).su
   change w.cell? ⟨bs.getD i 0,1,none⟩=some (.slice na (M.file i).now.length nc) at f1
   change bg 1 (.slice na (M.file i).now.length nc) (aA (M.file i).now) w at hrd
   change (M.file i).now.length≤nc at hcap
   generalize hL:(M.file i).now=L at *
   have HL:=uQ hL;clear hL
   generalize bs.getD i 0=q at *
   have Hg:=uQ hg;have Ho:=uQ ho;clear hg ho
   have hread:∀ x:Bs×Int,x=(if at_<0∨n<0 then ([],2) else if (L.length:Int)<at_∨(L.length:Int) - at_<n then ([],3) else ((L.drop at_.toNat).take n.toNat,0))→M.read s at_ n=x:=by
    rintro x rfl
    simp only [ay.read,Ho.out,Hg.out,HL.out,ajK,akO]
   have nK:=uQ hread;clear hread
   by_cases h1:at_<0
   ·go_enter Tryz.func156,Tryz.ntmps156
    go_wp2_with (go_at_call 103;refine hf.mono ?_;rintro e w1 ⟨v,rfl,rfl,rfl⟩)
    go_ret2
    have:=nK.out _ (ac3 (.inl h1)).symm
    exact ⟨_,rfl,.slice none 0 0,by rw [this];rfl,by rw [this];exact Sat.fD.2 h⟩
   have h1':decide (at_<0)=false:=by simpa using h1
   by_cases h2:n<0
   ·go_enter Tryz.func156,Tryz.ntmps156
    go_wp2_with (go_at_call 103;refine hf.mono ?_;rintro e w1 ⟨v,rfl,rfl,rfl⟩)
    go_ret2
    have:=nK.out _ (ac3 (.inr h2)).symm
    exact ⟨_,rfl,.slice none 0 0,by rw [this];rfl,by rw [this];exact Sat.fD.2 h⟩
   have h2':decide (n<0)=false:=by simpa using h2
   obtain ⟨a,rfl⟩:=Int.eq_ofNat_of_zero_le (show 0≤at_ by omega)
   obtain ⟨k,rfl⟩:=Int.eq_ofNat_of_zero_le (show 0≤n by omega)
   have h12:¬ ((a:Int)<0∨(k:Int)<0):=by omega
   by_cases h3:(L.length:Int)<a
   ·go_enter Tryz.func156,Tryz.ntmps156
    go_wp2_with (go_at_call 103;refine hf.mono ?_;rintro e w1 ⟨v,rfl,rfl,rfl⟩)
    go_ret2
    have:=nK.out _ ((abw h12).trans (ac3 (.inl h3))).symm
    exact ⟨_,rfl,.slice none 0 0,by rw [this];rfl,by rw [this];exact Sat.fD.2 h⟩
   have h3':decide ((L.length:Int)<a)=false:=by simpa using h3
   by_cases h4:(L.length:Int) - a<k
   ·go_enter Tryz.func156,Tryz.ntmps156
    go_wp2_with (go_at_call 103;refine hf.mono ?_;rintro e w1 ⟨v,rfl,rfl,rfl⟩)
    go_ret2
    have:=nK.out _ ((abw h12).trans (ac3 (.inr h4))).symm
    exact ⟨_,rfl,.slice none 0 0,by rw [this];rfl,by rw [this];exact Sat.fD.2 h⟩
   have h4':decide ((L.length:Int) - a<k)=false:=by simpa using h4
   have h34:¬ ((L.length:Int)<a∨(L.length:Int) - a<k):=by omega
   have hfin:=nK.out _ ((abw h12).trans (abw h34)).symm
   have bH:=uQ hfin;clear hfin
   have hcl:∀ x,x=(if nc=a then na else na.map (·.add a))→Calls Tryz.prog 102 #[.slice x k (nc - a)] w (aO fun v' w'=>Sat w0 w' (bJ v' ((L.drop a).take k)::aH m M::F)∧∃ a n c,v' = .slice a n c):=by
    intro x hx
    refine tZ h ?_ (by simp;omega)
    have:=MV (lo:=a) (k:=k) hrd oQ x hx hcap (nc - a)
    simpa [aA,ala,List.map_drop] using this
   have iF:=uQ hcl
   clear hcl hrd
   have e5:(a:Int)+k≤nc:=by omega
   rcases hna with ⟨rfl,rfl⟩|⟨g,rfl⟩
   ·obtain rfl:a=0:=by omega
    obtain rfl:k=0:=by omega
    have hcl:=iF.out none (by simp)
    simp only [akb]at hcl
    clear nK iF
    go_enter Tryz.func156,Tryz.ntmps156
    go_wp2_with (first|(go_at_call 103;refine hf.mono ?_;rintro e w1 ⟨v,rfl,rfl,rfl⟩)|(go_at_call 102;go_must (refine hcl.mono ?_);rintro e w1 ⟨v,rfl,hS,_⟩))
    go_ret2
    exact ⟨_,rfl,v,by rw [bH.out];rfl,by rw [bH.out];exact hS⟩
   ·clear nK
    by_cases hca:nc=a
    ·subst hca
     obtain rfl:k=0:=by omega
     have hcl:=iF.out (some ⟨g,0,none⟩) (by simp)
     simp only [akb]at hcl
     clear iF
     go_enter Tryz.func156,Tryz.ntmps156
     go_wp2_with (first|(go_at_call 103;refine hf.mono ?_;rintro e w1 ⟨v,rfl,rfl,rfl⟩)|(go_at_call 102;go_must (refine hcl.mono ?_);rintro e w1 ⟨v,rfl,hS,_⟩))
     go_ret2
     exact ⟨_,rfl,v,by rw [bH.out];rfl,by rw [bH.out];exact hS⟩
    ·have hcl:=iF.out (some ⟨g,a,none⟩) (by rw [abw hca];simp [o9])
     clear iF
     go_enter Tryz.func156,Tryz.ntmps156
     go_wp2_with (first|(go_at_call 103;refine hf.mono ?_;rintro e w1 ⟨v,rfl,rfl,rfl⟩)|(go_at_call 102;go_must (refine hcl.mono ?_);rintro e w1 ⟨v,rfl,hS,_⟩))
     go_ret2
     exact ⟨_,rfl,v,by rw [bH.out];rfl,by rw [bH.out];exact hS⟩
 ·have hf:=xZ (s:=s) hR ho
  have bH:Hid (M.read s at_ n=([],12)):=by show _=_;simp [ay.read,ho]
  clear ho
  go_enter Tryz.func156,Tryz.ntmps156
  go_wp2_with (go_at_call 103;refine hf.mono ?_;rintro e w1 ⟨v,rfl,rfl,rfl⟩)
  go_ret2
  exact ⟨_,rfl,.slice none 0 0,by rw [bH.out];rfl,by rw [bH.out];exact Sat.fD.2 h⟩
end
section
variable {w0 w:World}{F:List aG}{m fb nb b r:Nat}{M:ay}{bs:List Nat}{wv v bv:Value}{s:ByteArray}{l:Names}{fs:List bC}{K:Nat}
theorem U9 (room:Nat) (hr:room≤16777216) (h:Sat w0 w F) :
  Calls Tryz.prog 9 #[.int .i64 room] w (aO fun v w'=>∃ m,v = .tuple #[ptr m,errno 0]∧Sat w0 w' (aH m (ay.new room)::F)):=by
 have h2:decide ((room:Int)<0)=false:=by rw [ajJ];omega
 have h3:decide (16777216<(room:Int))=false:=by rw [ajJ];omega
 have hmm:=@run_makeMap Tryz.prog
 have hA:=((h.F7 .string).F7 .string)
 have hB:=hA.alloc (.cells #[.int .i64 room,.map (some w.heap.size),.map (some (w.heap.size+1)),.slice none 0 0,.bool false,.int .i64 0,.bool false] 108)
 go_enter Tryz.func9,Tryz.ntmps9
 go_wp2
 go_ret2
 refine ⟨_,rfl,_,rfl,?_⟩
 refine aH.shut (bs:=[]) (fb:=w.heap.size) (nb:=w.heap.size+1) (wv:= .slice none 0 0) rfl ?_
 have h5:Sat w0 _ (aC 258 3 (.slice none 0 0) []::Sl.emp::_::_::_::F):=Sat.fD.2 (Sat.emp.2 hB)
 simp only [World.size_alloc]at h5
 exact h5.sel 5 [2,3,1,4,0] rfl rfl
theorem Dk (hM:M.Ok K) (h:Sat w0 w (aH m M::F)) :
  Calls Tryz.prog 59 #[ptr m] w (aO fun v w'=>Sat w0 w' (aC 9 1 v (strs M.list)::aH m M::F)∧∃ a n c,v = .slice a n c):=by
 obtain ⟨bs,fb,nb,wv,hl,hR⟩:=aH.open h
 have hd:=xQ hR
 have c2:=hR.cellAt 2 _ rfl
 cases ho:M.off
 ·rw [ho]at hd
  have hnm:=aeG (hR.sel 5 [1,0,2,3,4] rfl rfl) hM.fH.lF (by have:=hM.fH.len;omega)
  have bH:Hid (M.list=M.now.map (·.1)):=by show _=_;simp [ay.list,ho]
  clear ho
  go_enter Tryz.func59,Tryz.ntmps59
  go_wp2_with (first|(go_at_call 106;refine hd.mono ?_;rintro e w1 ⟨v,rfl,rfl,rfl⟩)|(go_at_call 107;go_must (refine hnm.mono ?_);rintro e w1 ⟨v,rfl,hS,a1,n1,k1,rfl⟩))
  go_ret
  refine ⟨_,rfl,?_,_,_,_,rfl⟩
  rw [bH.out]
  exact (aH.shut hl (hS.sel 6 [2,1,3,4,5,0] rfl rfl)).aZ
 ·rw [ho]at hd
  have bH:Hid (M.list=[]):=by show _=_;simp [ay.list,ho]
  clear ho
  go_enter Tryz.func59,Tryz.ntmps59
  go_wp2_with (go_at_call 106;refine hd.mono ?_;rintro e w1 ⟨v,rfl,rfl,rfl⟩)
  go_ret
  refine ⟨.slice none 0 0,rfl,?_,_,_,_,rfl⟩
  rw [bH.out]
  exact Sat.fD.2 h
end
section
variable {w0 w:World}{F:List aG}{m fb nb b r:Nat}{M:ay}{bs:List Nat}{wv v bv:Value}{s:ByteArray}{l:Names}{fs:List bC}{K:Nat}
theorem Sv (bs:List Nat) (b i:Nat) (h:i<bs.length):(bs++[b]).getD i 0=bs.getD i 0:=by
 simp [adV h]
theorem U0 (h:∀ p∈l,p.2<bs.length) (b:Nat):dL (bs++[b]) l=dL bs l:=by
 unfold dL
 apply akz
 intro p hp
 rw [Sv bs b p.2 (h p hp)]
theorem aep {ws:List gV} (h:∀ x∈ws,x.to≠ByteArray.empty→x.f<bs.length) (b:Nat):ws.flatMap (lK (bs++[b]))=ws.flatMap (lK bs):=by
 induction ws with
 |nil=>rfl
 |cons x ws ih=>
  rw [ai7,ai7,ih fun y hy=>h y (.tail _ hy)]
  congr 1
  unfold lK
  by_cases ht:x.to=ByteArray.empty
  ·simp [ht]
  ·simp only [abw ht]
   rw [Sv bs b x.f (h x (.head _) ht)]
theorem aeh (h:Sat w0 w (omap .string b (dL bs l)::F)) (ty:TypeId):(Builtin.len_ #[105] ty #[.map (some b)]).run Tryz.prog w = .ok (.int .i64 l.length) w:=by
 have:=agQ (P:=Tryz.prog) Tryz.underlying105 ty h
 simpa [dL] using this
theorem qX (h:Sat w0 w (lW m M.step.1 fb nb wv::[omap .string nb (dL bs M.now),mG bs M.files,omap .string fb (dL bs M.fast),aC 258 3 wv (M.waits.flatMap (lK bs))]++F)):Sat w0 w (tH m M.step.1 bs fb nb wv++F):=by
 obtain ⟨e1,e2,e3,e4,e5⟩:=M.jv
 unfold tH
 rw [e2,e3,e4,e5]
 exact h
theorem YA (h:Sat w0 w (zA b (.slice none 0 0) (.slice none 0 0) (.slice none 0 0)::F)):Sat w0 w (jT b bC.new::F):=by
 refine jT.shut (fv:= .slice none 0 0) (nv:= .slice none 0 0) (wv:= .slice none 0 0) (ws:=[]) rfl ?_
 have h1:Sat w0 w (bJ (.slice none 0 0) []::bJ (.slice none 0 0) []::aC 330 3 (.slice none 0 0) []::rH []::_):=Sat.fD.2 (Sat.fD.2 (Sat.fD.2 (Sat.emp.2 h)))
 exact h1.sel 5 [4,0,1,2,3] rfl rfl
theorem aa2 (hM:M.Ok K) (hK:K≤1099511627776) (hl:bs.length=M.files.length) (hs:s≠ByteArray.empty) (h:Sat w0 w (tH m M bs fb nb wv++F)) :
  Calls Tryz.prog 158 #[ptr m,.agg #[.string { data:=#[] },.string s,ptr w.heap.size]] (w.alloc (.cells #[.slice none 0 0,.slice none 0 0,.slice none 0 0] 192))
   (aO fun _ w'=>Sat w0 w' (aH m (({ M with files:=M.files++[bC.new] }:ay).link ⟨ByteArray.empty,s,M.files.length⟩)::F)):=by
 have h1:=h.alloc (.cells #[.slice none 0 0,.slice none 0 0,.slice none 0 0] 192)
 have h2:=YA h1
 generalize w.heap.size=q at *
 have e1:dL (bs++[q]) M.now=dL bs M.now:=U0 (fun p hp=>by rw [hl];exact hM.fH.ids p hp) q
 have e2:dL (bs++[q]) M.fast=dL bs M.fast:=U0 (fun p hp=>by rw [hl];exact hM.abT.ids p hp) q
 have e3:M.waits.flatMap (lK (bs++[q]))=M.waits.flatMap (lK bs):=aep (fun x hx ht=>by rw [hl];exact hM.links x hx ht) q
 have e4:mG (bs++[q]) (M.files++[bC.new])=star (jT q bC.new) (mG bs M.files):=Rl _ _ _ _ hl
 have h3:Sat w0 _ (jT q bC.new::mG bs M.files::lW m M fb nb wv::omap .string nb (dL bs M.now)::aC 258 3 wv (M.waits.flatMap (lK bs))::omap .string fb (dL bs M.fast)::F):=h2.sel 6 [0,3,1,2,5,4] rfl rfl
 have h4:=Sat.star.2 h3
 rw [← e4,← e1,← e2,← e3]at h4
 have h5:=h4.sel 5 [1,2,3,0,4] rfl rfl
 have hlk:=UH (M:={ M with files:=M.files++[bC.new] }) (bs:=bs++[q]) ⟨ByteArray.empty,s,M.files.length⟩ h5 (adr hM.budget hK)
 have e5:mO (bs++[q]) ⟨ByteArray.empty,s,M.files.length⟩=ptr q:=by
  unfold mO
  rw [abw hs]
  simp [← hl]
 rw [e5]at hlk
 refine hlk.mono ?_
 rintro e w1 ⟨v,rfl,wv',hS⟩
 refine ⟨v,rfl,aH.shut (bs:=bs++[q]) (fb:=fb) (nb:=nb) (wv:=wv') (by simp [ay.link,hl]) ?_⟩
 exact hS.sel 5 [0,1,3,4,2] rfl rfl
theorem J7 (hM:M.Ok K) (hK:K≤1099511627776) (h:Sat w0 w (aH m M::F)) (s:ByteArray) (hs:s.size≤9223372036854775807) :
  Calls Tryz.prog 167 #[ptr m,.string s] w (aO fun v w'=>v=errno (M.create s).2∧Sat w0 w' (aH m (M.create s).1::F)):=by
 obtain ⟨bs,fb,nb,wv,hl,hR⟩:=aH.open h
 have hd:=xQ hR
 have hg:=SE s w hs
 have c2:=hR.cellAt 2 _ rfl
 cases ho:M.off
 ·rw [ho]at hd
  cases hgs:good s
  ·rw [hgs]at hg
   have bH:Hid (M.create s=(M,7)):=by show _=_;simp [ay.create,ho,hgs]
   clear ho hgs
   go_enter Tryz.func167,Tryz.ntmps167
   go_wp2_with (first|(go_at_call 106;refine hd.mono ?_;rintro e w1 ⟨v,rfl,rfl,rfl⟩)|(go_at_call 217;refine hg.mono ?_;rintro e w1 ⟨v,rfl,rfl,rfl⟩))
   go_ret
   exact ⟨errno 7,rfl,by rw [bH.out],by rw [bH.out];exact h⟩
  rw [hgs]at hg
  have hlk:=LP (s:=s) (hR.aZ)
  cases hn:bP M.now s with
  |some i=>
   have bH:Hid (M.create s=(M,10)):=by show _=_;simp [ay.create,ho,hgs,hn]
   rw [yg,hn]at hlk
   clear ho hgs hn
   simp only at hlk
   generalize bs.getD i 0=q at hlk
   go_enter Tryz.func167,Tryz.ntmps167
   go_wp2_with (first|(go_at_call 106;refine hd.mono ?_;rintro e w1 ⟨v,rfl,rfl,rfl⟩)|(go_at_call 217;refine hg.mono ?_;rintro e w1 ⟨v,rfl,rfl,rfl⟩))
   go_ret
   exact ⟨errno 10,rfl,by rw [bH.out],by rw [bH.out];exact h⟩
  |none=>
   rw [yg,hn]at hlk
   simp only at hlk
   have hlen:=fun ty=>aeh (hR.aZ) ty
   by_cases KG:500≤(M.now.length:Int)
   ·have bH:Hid (M.create s=(M,16)):=by
     show _=_
     have:500≤M.now.length:=by omega
     simp [ay.create,ho,hgs,hn,this]
    clear ho hgs hn
    go_enter Tryz.func167,Tryz.ntmps167
    go_wp2_with (first|(go_at_call 106;refine hd.mono ?_;rintro e w1 ⟨v,rfl,rfl,rfl⟩)|(go_at_call 217;refine hg.mono ?_;rintro e w1 ⟨v,rfl,rfl,rfl⟩))
    go_ret
    exact ⟨errno 16,rfl,by rw [bH.out],by rw [bH.out];exact h⟩
   have E5:¬ 500≤M.now.length:=by omega
   have hb5:decide ((500:Int)≤(M.now.length:Int))=false:=by rw [ajJ];exact KG
   have hst:=yO hR hM.left
   cases hstep:M.step.2
   ·rw [hstep]at hst
    have bH:Hid (M.create s=(M.step.1,12)):=by show _=_;simp [ay.create,ho,hgs,hn,E5,hstep]
    clear ho hgs hn hstep KG E5
    go_enter Tryz.func167,Tryz.ntmps167
    go_wp2_with (first|(go_at_call 106;refine hd.mono ?_;rintro e w1 ⟨v,rfl,rfl,rfl⟩)|(go_at_call 217;refine hg.mono ?_;rintro e w1 ⟨v,rfl,rfl,rfl⟩)|(go_at_call 157;refine hst.mono ?_;rintro e w1 ⟨v,rfl,rfl,hS1⟩))
    go_ret
    refine ⟨errno 12,rfl,by rw [bH.out],?_⟩
    rw [bH.out]
    exact aH.shut (bs:=bs) (fb:=fb) (nb:=nb) (wv:=wv) (by rw [M.jv.2.2.2.1];exact hl) (qX hS1)
   ·rw [hstep]at hst
    have bH:Hid (M.create s=(({ M.step.1 with files:=M.files++[bC.new] }:ay).link ⟨ByteArray.empty,s,M.files.length⟩,0)):=by show _=_;simp [ay.create,ho,hgs,hn,E5,hstep]
    have hne:=pI hgs
    clear ho hgs hn hstep KG E5
    have hl':bs.length=M.step.1.files.length:=by rw [M.jv.2.2.2.1];exact hl
    have xA:=uQ hl';clear hl'
    go_enter Tryz.func167,Tryz.ntmps167
    go_wp2_with (first|(go_at_call 106;refine hd.mono ?_;rintro e w1 ⟨v,rfl,rfl,rfl⟩)|(go_at_call 217;refine hg.mono ?_;rintro e w1 ⟨v,rfl,rfl,rfl⟩)|(go_at_call 157;refine hst.mono ?_;rintro e w1 ⟨v,rfl,rfl,hS1⟩)|(go_at_call 158;go_must (refine (aa2 hM.step hK xA.out hne (qX hS1)).mono ?_);rintro e w2 ⟨v2,rfl,hS2⟩))
    go_ret
    refine ⟨errno 0,rfl,by rw [bH.out],?_⟩
    rw [bH.out]
    have e4:=M.jv.2.2.2.1
    rw [e4]at hS2
    exact hS2
 ·rw [ho]at hd
  have bH:Hid (M.create s=(M,12)):=by show _=_;simp [ay.create,ho]
  clear ho
  go_enter Tryz.func167,Tryz.ntmps167
  go_wp2_with (go_at_call 106;refine hd.mono ?_;rintro e w1 ⟨v,rfl,rfl,rfl⟩)
  go_ret
  exact ⟨errno 12,rfl,by rw [bH.out],by rw [bH.out];exact h⟩
end
section
variable {w0 w:World}{F:List aG}{m fb nb b r:Nat}{M:ay}{bs:List Nat}{wv v bv:Value}{s:ByteArray}{l:Names}{fs:List bC}{K:Nat}
theorem V7 (hl:bs.length=M.files.length){i:Nat} (hi:i<M.files.length) (h:Sat w0 w (tH m M bs fb nb wv++F)) :
  ∃ G:aG,Sat w0 w (jT (bs.getD i 0) (M.file i)::lW m M fb nb wv::omap .string nb (dL bs M.now)::omap .string fb (dL bs M.fast)::aC 258 3 wv (M.waits.flatMap (lK bs))::G::F) ∧
   ∀ (w':World) (f':bC),Sat w0 w' (jT (bs.getD i 0) f'::lW m M fb nb wv::omap .string nb (dL bs M.now)::omap .string fb (dL bs M.fast)::aC 258 3 wv (M.waits.flatMap (lK bs))::G::F)→Sat w0 w' (aH m (M.gZ i f')::F):=by
 obtain ⟨G,h1,h2⟩:=Kv bs M.files i hl hi
 refine ⟨G,?_,fun w' f' h'=>?_⟩
 ·have h3:=h.sel 5 [2,0,1,3,4] rfl rfl
  have h4:Sat w0 w (mG bs M.files::lW m M fb nb wv::omap .string nb (dL bs M.now)::omap .string fb (dL bs M.fast)::aC 258 3 wv (M.waits.flatMap (lK bs))::F):=h3
  rw [h1]at h4
  exact (Sat.star.1 h4).sel 6 [0,2,3,4,5,1] rfl rfl
 ·refine aH.shut (bs:=bs) (fb:=fb) (nb:=nb) (wv:=wv) (by simp [ay.gZ,hl]) ?_
  have h4:Sat w0 w' (jT (bs.getD i 0) f'::G::lW m M fb nb wv::omap .string nb (dL bs M.now)::omap .string fb (dL bs M.fast)::aC 258 3 wv (M.waits.flatMap (lK bs))::F):=h'.sel 6 [0,5,1,2,3,4] rfl rfl
  have h5:=Sat.star.2 h4
  rw [← h2]at h5
  exact h5.sel 5 [1,2,0,3,4] rfl rfl
theorem H7 (hM:M.Ok K) (h:Sat w0 w (aH m M::F)) (s:ByteArray) :
  Calls Tryz.prog 154 #[ptr m,.string s] w (aO fun v w'=>v=errno (M.sync s).2∧Sat w0 w' (aH m (M.sync s).1::F)):=by
 obtain ⟨bs,fb,nb,wv,hl,hR⟩:=aH.open h
 cases ho:M.off
 ·cases hn:bP M.now s with
  |none=>
   have hf:=xY (s:=s) hR ho hn
   have bH:Hid (M.sync s=(M,9)):=by show _=_;simp [ay.sync,ho,hn]
   clear ho hn
   go_enter Tryz.func154,Tryz.ntmps154
   go_wp2_with (go_at_call 103;refine hf.mono ?_;rintro e w1 ⟨v,rfl,rfl,rfl⟩)
   go_ret
   exact ⟨errno 9,rfl,by rw [bH.out],by rw [bH.out];exact h⟩
  |some i=>
   have hf:=x8 (s:=s) hR ho hn
   have hid:i<M.files.length:=hM.fH.ids (s,i) (jk hn)
   have hst:=yO hR hM.left
   cases hstep:M.step.2
   ·rw [hstep]at hst
    have bH:Hid (M.sync s=(M.step.1,12)):=by show _=_;simp [ay.sync,ho,hn,hstep]
    clear ho hn hstep
    go_enter Tryz.func154,Tryz.ntmps154
    go_wp2_with (first|(go_at_call 103;refine hf.mono ?_;rintro e w1 ⟨v,rfl,rfl,rfl⟩)|(go_at_call 157;refine hst.mono ?_;rintro e w1 ⟨v,rfl,rfl,hS1⟩))
    go_ret
    refine ⟨errno 12,rfl,by rw [bH.out],?_⟩
    rw [bH.out]
    exact aH.shut (bs:=bs) (fb:=fb) (nb:=nb) (wv:=wv) (by rw [M.jv.2.2.2.1];exact hl) (qX hS1)
   ·rw [hstep]at hst
    have bH:Hid (M.sync s=(M.step.1.gZ i (M.file i).sync,0)):=by show _=_;simp [ay.sync,ho,hn,hstep]
    clear ho hn hstep
    have hl':bs.length=M.step.1.files.length:=by rw [M.jv.2.2.2.1];exact hl
    have KN:i<M.step.1.files.length:=by rw [M.jv.2.2.2.1];exact hid
    have hfe:M.step.1.file i=M.file i:=by unfold ay.file;rw [M.jv.2.2.2.1]
    have hnl:=(hM.file i).su
    have xA:=uQ hl';have I4:=uQ hfe
    clear hl' hfe
    generalize hq:bs.getD i 0=q at hf
    have Hq:=uQ hq;clear hq
    go_enter Tryz.func154,Tryz.ntmps154
    go_wp2_with (first|(go_at_call 103;refine hf.mono ?_;rintro e w1 ⟨v,rfl,rfl,rfl⟩)|(go_at_call 157;fail))
    refine hst.mono ?_
    rintro e w1 ⟨v,rfl,rfl,hS1⟩
    obtain ⟨G,h1,h2⟩:=V7 xA.out KN (qX hS1)
    rw [I4.out,Hq.out]at h1
    rw [Hq.out]at h2
    obtain ⟨fv,nv,wv',ws,hws,h3⟩:=jT.open h1
    have H2:=uQ h2;clear h2 hS1 h1 hws
    have h4:Sat w0 w1 (zA q fv nv wv'::bJ nv (M.file i).now::_):=h3.sel 3 [0,2] rfl rfl
    have c1:=h4.cellAt 1 _ rfl
    obtain ⟨na,nn,nc,rfl⟩:=JV h4.aZ
    have hcl:=tZ h4 h4.aZ.rd oQ
    go_wp2_with (go_at_call 102;go_must (refine hcl.mono ?_);rintro e w2 ⟨v2,rfl,hS2,a2,n2,k2,rfl⟩;have g0:=hS2.aZ.nR 0;have g2:=hS2.aZ.nR 2;have d0:=hS2.aZ.cellAt 0 _ rfl;have d2:=hS2.aZ.cellAt 2 _ rfl)
    go_ret
    refine ⟨errno 0,rfl,by rw [bH.out],?_⟩
    rw [bH.out]
    refine H2.out _ _ ?_
    have h5:=(hS2.aZ.set 0 (.slice a2 n2 k2)).set 2 (.slice none 0 0)
    refine jT.shut (fv:= .slice a2 n2 k2) (nv:= .slice na nn nc) (wv:= .slice none 0 0) (ws:=[]) rfl ?_
    have h6:Sat w0 _ (aC 330 3 (.slice none 0 0) []::rH []::_::_::_::aC _ _ _ _::rH _::_):=Sat.fD.2 (Sat.emp.2 h5)
    exact h6.sel 7 [2,3,4,0,1] rfl rfl
 ·have hf:=xZ (s:=s) hR ho
  have bH:Hid (M.sync s=(M,12)):=by show _=_;simp [ay.sync,ho]
  clear ho
  go_enter Tryz.func154,Tryz.ntmps154
  go_wp2_with (go_at_call 103;refine hf.mono ?_;rintro e w1 ⟨v,rfl,rfl,rfl⟩)
  go_ret
  exact ⟨errno 12,rfl,by rw [bH.out],by rw [bH.out];exact h⟩
end
section
variable {w0 w:World}{F:List aG}{m fb nb b r:Nat}{M:ay}{bs:List Nat}{wv v bv:Value}{s:ByteArray}{l:Names}{fs:List bC}{K:Nat}
theorem DK {lb:Bs} (hr:Ro w0 F (bg 1 bv (aA lb))){A:aG} (h:Sat w0 w (A::F)):∃ a n c,bv = .slice a n c∧n=lb.length:=by
 obtain ⟨a,n,c,rfl,hl,_⟩:=hr w h.drop
 rw [aV,aiw]at hl
 exact ⟨a,n,c,rfl,hl.symm⟩
theorem Et (hM:M.Ok K) (hK:K≤1099511627776) (h:Sat w0 w (aH m M::F)) (s:ByteArray) (lb:Bs) (hr:Ro w0 F (bg 1 bv (aA lb))) :
  Calls Tryz.prog 164 #[ptr m,.string s,bv] w (aO fun v w'=>v=errno (M.append s lb).2∧Sat w0 w' (aH m (M.append s lb).1::F)):=by
 obtain ⟨bs,fb,nb,wv,hl,hR⟩:=aH.open h
 cases ho:M.off
 ·cases hn:bP M.now s with
  |none=>
   obtain ⟨ba,bn,bc,rfl,hbn⟩:=DK hr h
   clear hbn
   have hf:=xY (s:=s) hR ho hn
   have bH:Hid (M.append s lb=(M,9)):=by show _=_;simp [ay.append,ho,hn]
   clear ho hn hr
   go_enter Tryz.func164,Tryz.ntmps164
   go_wp2_with (go_at_call 103;refine hf.mono ?_;rintro e w1 ⟨v,rfl,rfl,rfl⟩)
   go_ret
   exact ⟨errno 9,rfl,by rw [bH.out],by rw [bH.out];exact h⟩
  |some i=>
   have hf:=x8 (s:=s) hR ho hn
   have hid:i<M.files.length:=hM.fH.ids (s,i) (jk hn)
   obtain ⟨ba,bn,bc,rfl,hbn⟩:=DK hr h
   have hu:=aiq (w:=w.drew) (m:=m) (M:=M) (fb:=fb) (nb:=nb) (wv:=wv) (bs:=bs) hR.drew hl hM.fH.ids (by have:=hM.X3;omega)
   have hut:M.ru=M.used:=by simp [ay.ru,ho]
   rw [hut]at hu
   have hu2:=hM.X3
   have hr2:=hM.room
   have c0:=hR.cellAt 0 _ rfl
   have Hr:=uQ hr;clear hr
   clear hut
   by_cases hfull:(M.room:Int) - M.used<lb.length
   ·have bH:Hid (M.append s lb=(M,11)):=by show _=_;simp [ay.append,ho,hn,hfull]
    clear ho hn
    subst hbn
    have hwr:IntKind.i64.wrap ((M.room:Int) - (M.used:Int))=(M.room:Int) - (M.used:Int):=acI _ oQ
    go_enter Tryz.func164,Tryz.ntmps164
    go_wp2_with (go_at_call 103;refine hf.mono ?_;rintro e w1 ⟨v,rfl,rfl,rfl⟩)
    refine dH [8,9] (fun w'=>w'.cell? ⟨m,0,none⟩=some (.int .i64 M.room)) au ?_
    have hG:=c0
    refine fA (i:=0) (v:=?_) rfl au (fun _ _ _ h=>h) (Or.inl ⟨by rfl,?_⟩) ?_;rotate_left;focus ((intro wq;go_simp);first|done|(with_reducible rfl))
    refine fA (i:=1) (v:=?_) rfl au (fun _ _ _ h=>h) (Or.inl ⟨by rfl,?_⟩) ?_;rotate_left;focus ((intro wq;go_simp);first|done|(with_reducible rfl))
    refine fA (i:=2) (v:=?_) rfl au (fun _ _ _ h=>h) (Or.inl ⟨by rfl,?_⟩) ?_;rotate_left;focus ((intro wq;go_simp);first|done|(with_reducible rfl))
    refine fA (i:=3) (v:=?_) rfl au (fun _ _ _ h=>h) (Or.inl ⟨by rfl,?_⟩) ?_;rotate_left;focus ((intro wq;go_simp);first|done|(with_reducible rfl))
    refine fA (i:=4) (v:=?_) rfl au (fun _ _ _ h=>h) (Or.inl ⟨by rfl,?_⟩) ?_;rotate_left;focus ((intro wq;go_simp);first|done|(with_reducible rfl))
    refine nY (i:=5) (v:=?_) rfl au (fun _ _ _ h=>h) (Or.inl ⟨by rfl,?_⟩) aQ ?_;rotate_left;focus ((intro wq hq;go_split_ands;go_simp);first|done|(with_reducible rfl))
    refine fA (i:=6) (v:=?_) rfl au (fun _ _ _ h=>h) (Or.inl ⟨by rfl,?_⟩) ?_;rotate_left;focus ((intro wq;go_simp);first|done|(with_reducible rfl))
    refine nX (i:=7) rfl au (fun K hK=>?_)
    go_simp
    refine hu.mono ?_
    rintro e w1 ⟨v,rfl,rfl,vO⟩
    refine hK _ _ (.inr (.inl (vO.cellAt 0 _ rfl))) ?_
    clear hK K hG
    refine fA (i:=8) (v:=?_) rfl au (fun _ _ _ h=>h) (Or.inl ⟨by rfl,?_⟩) ?_;rotate_left;focus ((intro wq;go_simp);first|done|(with_reducible rfl))
    refine fA (i:=9) (v:=?_) rfl au (fun _ _ _ h=>h) (Or.inl ⟨by rfl,?_⟩) ?_;rotate_left;focus ((intro wq;go_simp);first|done|(with_reducible rfl))
    refine dD au ?_
    clear hwr
    go_wp2
    go_ret
    exact ⟨errno 11,rfl,by rw [bH.out],by rw [bH.out];exact aH.shut hl vO⟩
   have ajv:decide ((M.room:Int) - M.used<lb.length)=false:=by rw [ajJ];exact hfull
   cases hstep:M.step.2
   ·have bH:Hid (M.append s lb=(M.step.1,12)):=by show _=_;simp [ay.append,ho,hn,hfull,hstep]
    have Hs:=uQ hstep
    clear ho hn hstep hfull
    subst hbn
    have hwr:IntKind.i64.wrap ((M.room:Int) - (M.used:Int))=(M.room:Int) - (M.used:Int):=acI _ oQ
    go_enter Tryz.func164,Tryz.ntmps164
    go_wp2_with (go_at_call 103;refine hf.mono ?_;rintro e w1 ⟨v,rfl,rfl,rfl⟩)
    refine dH [8,9] (fun w'=>w'.cell? ⟨m,0,none⟩=some (.int .i64 M.room)) au ?_
    have hG:=c0
    refine fA (i:=0) (v:=?_) rfl au (fun _ _ _ h=>h) (Or.inl ⟨by rfl,?_⟩) ?_;rotate_left;focus ((intro wq;go_simp);first|done|(with_reducible rfl))
    refine fA (i:=1) (v:=?_) rfl au (fun _ _ _ h=>h) (Or.inl ⟨by rfl,?_⟩) ?_;rotate_left;focus ((intro wq;go_simp);first|done|(with_reducible rfl))
    refine fA (i:=2) (v:=?_) rfl au (fun _ _ _ h=>h) (Or.inl ⟨by rfl,?_⟩) ?_;rotate_left;focus ((intro wq;go_simp);first|done|(with_reducible rfl))
    refine fA (i:=3) (v:=?_) rfl au (fun _ _ _ h=>h) (Or.inl ⟨by rfl,?_⟩) ?_;rotate_left;focus ((intro wq;go_simp);first|done|(with_reducible rfl))
    refine fA (i:=4) (v:=?_) rfl au (fun _ _ _ h=>h) (Or.inl ⟨by rfl,?_⟩) ?_;rotate_left;focus ((intro wq;go_simp);first|done|(with_reducible rfl))
    refine nY (i:=5) (v:=?_) rfl au (fun _ _ _ h=>h) (Or.inl ⟨by rfl,?_⟩) aQ ?_;rotate_left;focus ((intro wq hq;go_split_ands;go_simp);first|done|(with_reducible rfl))
    refine fA (i:=6) (v:=?_) rfl au (fun _ _ _ h=>h) (Or.inl ⟨by rfl,?_⟩) ?_;rotate_left;focus ((intro wq;go_simp);first|done|(with_reducible rfl))
    refine nX (i:=7) rfl au (fun K hK=>?_)
    go_simp
    refine hu.mono ?_
    rintro e w1 ⟨v,rfl,rfl,vO⟩
    refine hK _ _ (.inr (.inl (vO.cellAt 0 _ rfl))) ?_
    clear hK K hG
    refine fA (i:=8) (v:=?_) rfl au (fun _ _ _ h=>h) (Or.inl ⟨by rfl,?_⟩) ?_;rotate_left;focus ((intro wq;go_simp);first|done|(with_reducible rfl))
    refine fA (i:=9) (v:=?_) rfl au (fun _ _ _ h=>h) (Or.inl ⟨by rfl,?_⟩) ?_;rotate_left;focus ((intro wq;go_simp);first|done|(with_reducible rfl))
    refine dD au ?_
    clear hwr
    have hst:=yO vO hM.left
    rw [Hs.out]at hst
    go_wp2_with (go_at_call 157;refine hst.mono ?_;rintro e w2 ⟨v,rfl,rfl,hS1⟩)
    go_ret
    refine ⟨errno 12,rfl,by rw [bH.out],?_⟩
    rw [bH.out]
    exact aH.shut (bs:=bs) (fb:=fb) (nb:=nb) (wv:=wv) (by rw [M.jv.2.2.2.1];exact hl) (qX hS1)
   ·have bH:Hid (M.append s lb=(M.step.1.gZ i ((M.file i).do ⟨false,0,lb⟩),0)):=by show _=_;simp [ay.append,ho,hn,hfull,hstep]
    have Hs:=uQ hstep
    have hfe:M.step.1.file i=M.file i:=by unfold ay.file;rw [M.jv.2.2.2.1]
    have TS:=hM.file i
    have hbig:lb.length≤16777216:=by omega
    clear ho hn hstep hfull
    subst hbn
    generalize hq:bs.getD i 0=q at hf
    have Hq:=uQ hq;clear hq
    have I4:=uQ hfe;clear hfe
    have bU:=uQ TS;clear TS
    have hwr:IntKind.i64.wrap ((M.room:Int) - (M.used:Int))=(M.room:Int) - (M.used:Int):=acI _ oQ
    go_enter Tryz.func164,Tryz.ntmps164
    go_wp2_with (go_at_call 103;refine hf.mono ?_;rintro e w1 ⟨v,rfl,rfl,rfl⟩)
    refine dH [8,9] (fun w'=>w'.cell? ⟨m,0,none⟩=some (.int .i64 M.room)) au ?_
    have hG:=c0
    refine fA (i:=0) (v:=?_) rfl au (fun _ _ _ h=>h) (Or.inl ⟨by rfl,?_⟩) ?_;rotate_left;focus ((intro wq;go_simp);first|done|(with_reducible rfl))
    refine fA (i:=1) (v:=?_) rfl au (fun _ _ _ h=>h) (Or.inl ⟨by rfl,?_⟩) ?_;rotate_left;focus ((intro wq;go_simp);first|done|(with_reducible rfl))
    refine fA (i:=2) (v:=?_) rfl au (fun _ _ _ h=>h) (Or.inl ⟨by rfl,?_⟩) ?_;rotate_left;focus ((intro wq;go_simp);first|done|(with_reducible rfl))
    refine fA (i:=3) (v:=?_) rfl au (fun _ _ _ h=>h) (Or.inl ⟨by rfl,?_⟩) ?_;rotate_left;focus ((intro wq;go_simp);first|done|(with_reducible rfl))
    refine fA (i:=4) (v:=?_) rfl au (fun _ _ _ h=>h) (Or.inl ⟨by rfl,?_⟩) ?_;rotate_left;focus ((intro wq;go_simp);first|done|(with_reducible rfl))
    refine nY (i:=5) (v:=?_) rfl au (fun _ _ _ h=>h) (Or.inl ⟨by rfl,?_⟩) aQ ?_;rotate_left;focus ((intro wq hq;go_split_ands;go_simp);first|done|(with_reducible rfl))
    refine fA (i:=6) (v:=?_) rfl au (fun _ _ _ h=>h) (Or.inl ⟨by rfl,?_⟩) ?_;rotate_left;focus ((intro wq;go_simp);first|done|(with_reducible rfl))
    refine nX (i:=7) rfl au (fun K hK=>?_)
    go_simp
    refine hu.mono ?_
    rintro e w1 ⟨v,rfl,rfl,vO⟩
    refine hK _ _ (.inr (.inl (vO.cellAt 0 _ rfl))) ?_
    clear hK K hG
    refine fA (i:=8) (v:=?_) rfl au (fun _ _ _ h=>h) (Or.inl ⟨by rfl,?_⟩) ?_;rotate_left;focus ((intro wq;go_simp);first|done|(with_reducible rfl))
    refine fA (i:=9) (v:=?_) rfl au (fun _ _ _ h=>h) (Or.inl ⟨by rfl,?_⟩) ?_;rotate_left;focus ((intro wq;go_simp);first|done|(with_reducible rfl))
    refine dD au ?_
    clear hwr
    have hst:=yO vO hM.left
    rw [Hs.out]at hst
    go_wp2_with (go_at_call 157;fail)
    refine hst.mono ?_
    rintro e w2 ⟨v,rfl,rfl,hS1⟩
    have hl':bs.length=M.step.1.files.length:=by rw [M.jv.2.2.2.1];exact hl
    have KN:i<M.step.1.files.length:=by rw [M.jv.2.2.2.1];exact hid
    obtain ⟨G,h1,h2⟩:=V7 hl' KN (qX hS1)
    rw [I4.out,Hq.out]at h1
    rw [Hq.out]at h2
    have hrd:=Hr.out w2 (h1.sel 6 [] rfl rfl)
    have hcl:=tZ h1 hrd oQ
    go_wp2_with (go_at_call 102;fail)
    refine hcl.mono ?_
    rintro e w3 ⟨v2,rfl,hS2,a2,n2,k2,rfl⟩
    obtain ⟨fv,nv,wv',ws,hws,h3⟩:=jT.open hS2.aZ
    have hdo:=abj (bv:= .slice a2 n2 k2) ⟨false,0,lb⟩ (h3.sel 6 [0,1,2,3,4,5] rfl rfl) hws ⟨(fun h=>by cases h),fun _=>by have:=bU.out.su;simp only;omega⟩ (adr bU.out.budget hK)
    clear h3 hws hst hcl hrd h1 hu
    go_wp2_with (go_at_call 216;go_must (refine hdo.mono ?_);rintro e w4 ⟨v4,rfl,hS4⟩)
    go_ret
    refine ⟨errno 0,rfl,by rw [bH.out],?_⟩
    rw [bH.out]
    exact h2 _ _ hS4
 ·obtain ⟨ba,bn,bc,rfl,hbn⟩:=DK hr h
  clear hbn
  have hf:=xZ (s:=s) hR ho
  have bH:Hid (M.append s lb=(M,12)):=by show _=_;simp [ay.append,ho]
  clear ho hr
  go_enter Tryz.func164,Tryz.ntmps164
  go_wp2_with (go_at_call 103;refine hf.mono ?_;rintro e w1 ⟨v,rfl,rfl,rfl⟩)
  go_ret
  exact ⟨errno 12,rfl,by rw [bH.out],by rw [bH.out];exact h⟩
theorem Ob (hM:M.Ok K) (h:Sat w0 w (aH m M::F)) :
  Calls Tryz.prog 117 #[ptr m] w (aO fun v w'=>v=errno M.dN.2∧Sat w0 w' (aH m M.dN.1::F)):=by
 obtain ⟨bs,fb,nb,wv,hl,hR⟩:=aH.open h
 have hd:=xQ hR
 cases ho:M.off
 ·rw [ho]at hd
  have hst:=yO hR hM.left
  cases hstep:M.step.2
  ·rw [hstep]at hst
   have bH:Hid (M.dN=(M.step.1,12)):=by show _=_;simp [ay.dN,ho,hstep]
   clear ho hstep
   go_enter Tryz.func117,Tryz.ntmps117
   go_wp2_with (first|(go_at_call 106;refine hd.mono ?_;rintro e w1 ⟨v,rfl,rfl,rfl⟩)|(go_at_call 157;refine hst.mono ?_;rintro e w1 ⟨v,rfl,rfl,hS1⟩))
   go_ret
   refine ⟨errno 12,rfl,by rw [bH.out],?_⟩
   rw [bH.out]
   exact aH.shut (bs:=bs) (fb:=fb) (nb:=nb) (wv:=wv) (by rw [M.jv.2.2.2.1];exact hl) (qX hS1)
  ·rw [hstep]at hst
   have bH:Hid (M.dN=({ M.step.1 with fast:=M.now,waits:=[] },0)):=by show _=_;simp [ay.dN,ho,hstep]
   clear ho hstep
   go_enter Tryz.func117,Tryz.ntmps117
   go_wp2_with (first|(go_at_call 106;refine hd.mono ?_;rintro e w1 ⟨v,rfl,rfl,rfl⟩)|(go_at_call 157;fail))
   refine hst.mono ?_
   rintro e w1 ⟨v,rfl,rfl,hS1⟩
   have c2:=hS1.cellAt 2 _ rfl
   have hcp:=aaX hS1.aZ
   go_wp2_with (go_at_call 175;go_must (refine hcp.mono ?_);rintro e w2 ⟨v,rfl,b',rfl,hS2⟩;have d1:=hS2.fG.cellAt 1 _ rfl;have d3:=hS2.fG.cellAt 3 _ rfl;have g1:=hS2.fG.nR 1;have g3:=hS2.fG.nR 3)
   go_ret
   refine ⟨errno 0,rfl,by rw [bH.out],?_⟩
   rw [bH.out]
   have h5:=(hS2.fG.set 1 (.map (some b'))).set 3 (.slice none 0 0)
   obtain ⟨e1,e2,e3,e4,e5⟩:=M.jv
   refine aH.shut (bs:=bs) (fb:=b') (nb:=nb) (wv:= .slice none 0 0) (by simp only [e4];exact hl) ?_
   have h6:Sat w0 _ (aC 258 3 (.slice none 0 0) []::_::_::_::_::_::aC _ _ _ _::F):=Sat.fD.2 h5
   unfold tH
   simp only [e3,e4]
   exact h6.sel 7 [1,3,4,2,0] rfl rfl
 ·rw [ho]at hd
  have bH:Hid (M.dN=(M,12)):=by show _=_;simp [ay.dN,ho]
  clear ho
  go_enter Tryz.func117,Tryz.ntmps117
  go_wp2_with (go_at_call 106;refine hd.mono ?_;rintro e w1 ⟨v,rfl,rfl,rfl⟩)
  go_ret
  exact ⟨errno 12,rfl,by rw [bH.out],by rw [bH.out];exact h⟩
end
section
variable {w0 w:World}{F:List aG}{m fb nb b r:Nat}{M:ay}{bs:List Nat}{wv v bv lv:Value}{s:ByteArray}{fs:List bC}{K:Nat}{f:bC}
def ints (l:List Int):List Value:=l.map (.int .i64)
def rW (x:Int):Prop:= -9223372036854775808≤x∧x≤9223372036854775807
def kV (v:Value):Prop:=∃ a n c,v = .slice a n c∧n≤c∧c≤9223372036854775807
end
section
variable {w0 w:World}{F:List aG}{m fb nb b r:Nat}{M:ay}{bs:List Nat}{wv v bv lv av:Value}{s:ByteArray}{fs:List bC}{K:Nat}{f:bC}
theorem zZ {a:Option Addr}{n c:Nat}{xs:List Value} (h:bg 1 (.slice a n c) xs w){i:Nat}{x:Value} (hi:xs[i]?=some x) :
  ∃ bk off,a=some ⟨bk,off,none⟩∧w.cell? ⟨bk,off+i,none⟩=some x:=by
 obtain ⟨a',n',c',he,hl,hx⟩:=h
 cases he
 obtain ⟨b,rfl,hc⟩:=hx i x hi
 have hlt:i<xs.length:=(abl.1 hi).1
 obtain ⟨y,hy⟩:∃ y,xs[0]?=some y:=⟨xs[0]'oQ,aak _⟩
 obtain ⟨b',hb',hc0⟩:=hx 0 y hy
 cases hb'
 obtain ⟨bk,off,spot⟩:=b
 have hs:spot=none:=by simpa [Addr.add] using World.cell?_spot hc0
 subst hs
 refine ⟨bk,off,rfl,?_⟩
 unfold Addr.add at hc
 split at hc
 ·rename_i h0;subst h0;exact hc
 ·exact hc
theorem cut_c (a:Option Addr) (n c k:Nat) (h1:n≤c) (h2:c≤9223372036854775807) (w:World) :
  Calls Tryz.prog 43 #[.slice a n c,.int .i64 k] w (aO fun v w'=>v = .slice a (min n k) c∧w=w'):=by
 by_cases hk:k<n
 ·have hk1:(k:Int)<(n:Int):=by omega
  have hk2:(k:Int)≤(c:Int):=by omega
  have e:=uQ (show min n k=k by omega)
  go_enter Tryz.func43,Tryz.ntmps43
  go_wp2
  go_ret
  exact ⟨.slice a k c,rfl,by rw [e.out],rfl⟩
 ·have hk1:¬ (k:Int)<(n:Int):=by omega
  have e:=uQ (show min n k=n by omega)
  go_enter Tryz.func43,Tryz.ntmps43
  go_wp2
  go_ret
  exact ⟨.slice a n c,rfl,by rw [e.out],rfl⟩
theorem ae2 (a:Option Addr) (n c k:Nat) (h1:n≤c) (h2:c≤9223372036854775807) (w:World) :
  Calls Tryz.prog 44 #[.slice a n c,.int .i64 k] w (aO fun v w'=>v = .slice a (min n k) c∧w=w'):=by
 by_cases hk:k<n
 ·have hk1:(k:Int)<(n:Int):=by omega
  have hk2:(k:Int)≤(c:Int):=by omega
  have e:=uQ (show min n k=k by omega)
  go_enter Tryz.func44,Tryz.ntmps44
  go_wp2
  go_ret
  exact ⟨.slice a k c,rfl,by rw [e.out],rfl⟩
 ·have hk1:¬ (k:Int)<(n:Int):=by omega
  have e:=uQ (show min n k=n by omega)
  go_enter Tryz.func44,Tryz.ntmps44
  go_wp2
  go_ret
  exact ⟨.slice a n c,rfl,by rw [e.out],rfl⟩
theorem ahb (la:Bs) (ha:Ro w0 F (bg 1 av (aA la))) (hb:Ro w0 F (bg 1 bv (aA la))) (h:Sat w0 w F) (hlen:la.length≤9223372036854775807) :
  Calls Tryz.prog 60 #[av,bv] w (aO fun v w'=>v = .bool true∧Sat w0 w' F):=by
 obtain ⟨aa,an,ac,rfl,hal,_⟩:=id (ha w h)
 obtain ⟨ba,bn,bc,rfl,hbl,_⟩:=id (hb w h)
 rw [aV,aiw]at hal hbl
 subst hal
 obtain rfl:=hbl.symm
 have Ha:=uQ ha;have Hb:=uQ hb
 clear ha hb
 go_enter Tryz.func60,Tryz.ntmps60
 go_wp2
 go_loopg [5] la.length (fun g iq wr=>∃ i:Nat,g=la.length - i∧i≤la.length∧iq = .int .i64 i∧Sat w0 wr F)
 case atStart=>exact ⟨0,rfl,afm _,rfl,h⟩
 case round=>
  obtain ⟨i,rfl,hiN,rfl,hS⟩:=hrel
  by_cases hi:i<la.length
  ·have hx:(aA la)[i]?=some (.int .u8 (la[i]'hi).toNat):=by unfold aA;simp [hi]
   obtain ⟨bk,off,rfl,c1⟩:=zZ (Ha.out _ hS) hx
   obtain ⟨bk2,off2,rfl,c2⟩:=zZ (Hb.out _ hS) hx
   generalize ((la[i]'hi).toNat:Int)=X at c1 c2
   clear hx
   have hic:(i:Int)<(la.length:Int):=by omega
   have hS1:=hS.drew
   go_wp2
   refine dH [8] (fun w'=>w'.cell? ⟨bk,off+i,none⟩=some (.int .u8 X)∧w'.cell? ⟨bk2,off2+i,none⟩=some (.int .u8 X)) au ?_
   have hG:_∧_:=And.intro c1 c2
   refine fA (i:=0) (v:=?_) rfl au (fun _ _ _ h=>h) (Or.inl ⟨by rfl,?_⟩) ?_;rotate_left;focus ((intro wq;go_simp);first|done|(with_reducible rfl))
   refine fA (i:=1) (v:=?_) rfl au (fun _ _ _ h=>h) (Or.inl ⟨by rfl,?_⟩) ?_;rotate_left;focus ((intro wq;go_simp);first|done|(with_reducible rfl))
   refine fA (i:=2) (v:=?_) rfl au (fun _ _ _ h=>h) (Or.inl ⟨by rfl,?_⟩) ?_;rotate_left;focus ((intro wq;go_simp);first|done|(with_reducible rfl))
   refine nY (i:=3) (v:=?_) rfl au (fun _ _ _ h=>h) (Or.inl ⟨by rfl,?_⟩) aQ ?_;rotate_left;focus ((intro wq hq;go_split_ands;go_simp);first|done|(with_reducible rfl))
   refine fA (i:=4) (v:=?_) rfl au (fun _ _ _ h=>h) (Or.inl ⟨by rfl,?_⟩) ?_;rotate_left;focus ((intro wq;go_simp);first|done|(with_reducible rfl))
   refine fA (i:=5) (v:=?_) rfl au (fun _ _ _ h=>h) (Or.inl ⟨by rfl,?_⟩) ?_;rotate_left;focus ((intro wq;go_simp);first|done|(with_reducible rfl))
   refine fA (i:=6) (v:=?_) rfl au (fun _ _ _ h=>h) (Or.inl ⟨by rfl,?_⟩) ?_;rotate_left;focus ((intro wq;go_simp);first|done|(with_reducible rfl))
   refine nY (i:=7) (v:=?_) rfl au (fun _ _ _ h=>h) (Or.inl ⟨by rfl,?_⟩) aQ ?_;rotate_left;focus ((intro wq hq;go_split_ands;go_simp);first|done|(with_reducible rfl))
   refine fA (i:=8) (v:=?_) rfl au (fun _ _ _ h=>h) (Or.inl ⟨by rfl,?_⟩) ?_;rotate_left;focus ((intro wq;go_simp);first|done|(with_reducible rfl))
   refine dD au ?_
   clear hG
   simp only [iO]
   go_frame
   go_wp2
   go_roundg (la.length - (i+1))
   case measure=>omega
   case rel=>exact ⟨i+1,rfl,by omega,by go_num,hS1⟩
  ·obtain rfl:i=la.length:=by omega
   have hic:¬ (la.length:Int)<(la.length:Int):=by omega
   go_wp2
   go_ret
   exact ⟨.bool true,rfl,rfl,hS⟩
end
section
variable {w0 w:World}{F:List aG}{m fb nb b r:Nat}{M:ay}{bs:List Nat}{wv v bv:Value}{s:ByteArray}{fs:List bC}{K:Nat}
def within (x lo hi:Int):Int:=if x<lo then lo else if hi<x then hi else x
theorem aiA (x lo hi:Int) (w:World):Calls Tryz.prog 8 #[.int .i64 x,.int .i64 lo,.int .i64 hi] w (aO fun v w'=>v = .int .i64 (within x lo hi)∧w=w'):=by
 by_cases h1:x<lo
 ·have e:=uQ (show within x lo hi=lo by simp [within,h1])
  go_enter Tryz.func8,Tryz.ntmps8
  go_wp2
  go_ret
  exact ⟨.int .i64 lo,rfl,by rw [e.out],rfl⟩
 ·by_cases h2:hi<x
  ·have e:=uQ (show within x lo hi=hi by simp [within,h1,h2])
   go_enter Tryz.func8,Tryz.ntmps8
   go_wp2
   go_ret
   exact ⟨.int .i64 hi,rfl,by rw [e.out],rfl⟩
  ·have e:=uQ (show within x lo hi=x by simp [within,h1,h2])
   go_enter Tryz.func8,Tryz.ntmps8
   go_wp2
   go_ret
   exact ⟨.int .i64 x,rfl,by rw [e.out],rfl⟩
theorem aaY (h:Sat w0 w F) (l:Bs) (hr:bg 1 bv (aA l) w) (hl:l.length≤1099511627776) :
  Calls Tryz.prog 42 #[bv] w (aO fun v w'=>Sat w0 w' (bJ v l::F)∧∃ a n c,v = .slice a n c):=by
 obtain ⟨i,hi,hz0,hz1,hz2⟩:=rX
 obtain ⟨a,n,c,rfl,hn,_⟩:=id hr
 rw [aV,aiw]at hn
 have h0:Sat w0 w (aC 5 1 (.slice none 0 0) []::F):=Sat.fD.2 h
 have h63:([]:List Value).length+(aA l).length≤maxLen:=by rw [aV];unfold maxLen;simp;omega
 have hby:(([]:List Value).length+(aA l).length) * i.bytes≤140737488355328:=by rw [aV,hz2];simp;omega
 have Hn:=uQ hn;clear hn
 go_enter Tryz.func42,Tryz.ntmps42
 go_wp2_with (at_builtin;go_must (refine wW (w0:=w0) ah _ _ _ ah _ i _ Tryz.underlying36 hi hz0 hz1 ah oQ ah ah (tX _) h0 hr h63 hby ?_);intro v2 w2 hS2 hne)
 obtain ⟨a2,n2,c2,rfl,_⟩:=id hS2.rd
 go_wp2
 go_ret
 exact ⟨_,rfl,hS2,_,_,_,rfl⟩
end
end Go.Proofs.YtiglchkhikciiaaGreatDoor
namespace Go.aj
abbrev Bs:=List UInt8
def half:List Nat:=[0,498536548,997073096,651767980,1994146192,1802195444,1303535960,1342533948,3988292384,4027552580,3604390888,3412177804,2607071920,2262029012,2685067896,3183342108]
def zB (x:Nat):Nat:=(x / 16) ^^^ half.getD (x%16) 0
def rJ (x:Nat) (c:UInt8):Nat:=zB (zB (x ^^^ c.toNat))
def BA (s:Nat) (b:Bs):Nat:=4294967295 - b.foldl rJ (4294967295 - s)
def crc (b:Bs):Nat:=BA 0 b
theorem Fb:∀ i,half.getD i 0<4294967296:=by
 intro i
 rw [adP]
 cases h:half[i]? with
 |none=>simp
 |some x=>
  have:x∈half:=abA h
  have h2:∀ y∈half,y<4294967296:=by decide
  exact h2 x this
theorem yU {a b:Nat} (ha:a<4294967296) (hb:b<4294967296):a ^^^ b<4294967296:=Nat.xor_lt_two_pow (n:=32) ha hb
theorem RN {x:Nat} (h:x<4294967296):zB x<4294967296:=yU oQ (Fb _)
theorem aa0 {x:Nat} (h:x<4294967296) (c:UInt8):rJ x c<4294967296:=RN (RN (yU h (by have:=c.toNat_lt;omega)))
theorem RQ:∀ (b:Bs) (x:Nat),x<4294967296→b.foldl rJ x<4294967296
 |[],_,h=>h
 |c::b,x,h=>RQ b _ (aa0 h c)
theorem J6 (b:Bs):crc b<4294967296:=by unfold crc BA;omega
def le (x:Nat):Nat→Bs
 |0=>[]
 |n+1=>UInt8.ofNat (x%256)::le (x / 256) n
def num:Bs→Nat
 |[]=>0
 |c::b=>c.toNat+256 * num b
theorem iH (x n:Nat):(le x n).length=n:=by
 induction n generalizing x with
 |zero=>rfl
 |succ n ih=>simp [le,ih]
theorem yF (n:Nat):∀ x,x<256^n→num (le x n)=x:=by
 induction n with
 |zero=>intro x h;simp at h;subst h;rfl
 |succ n ih=>
  intro x h
  show (UInt8.ofNat (x%256)).toNat+256 * num (le (x / 256) n)=x
  rw [ih (x / 256) (by rw [Nat.div_lt_iff_lt_mul oQ];rw [alA]at h;exact h),akH]
  omega
theorem vX:∀ b:Bs,num b<256^b.length
 |[]=>by simp [num]
 |c::b=>by
  have h1:=vX b
  have h2:=c.toNat_lt
  show c.toNat+256 * num b<256^(b.length+1)
  rw [alA]
  omega
structure aP where
 tag:Int
 key:Bs
 data:Bs
def zero32:Bs:=List.replicate 32 0
def check (x:aP):Int:=
 if x.tag=0 then (if 16384<x.data.length then 5 else 0)
 else if x.tag=2 then (if x.key≠zero32 then 4 else if 0<x.data.length then 4 else if 16384<x.data.length then 5 else 0)
 else if x.tag=1 then (if 0<x.data.length then 4 else if 16384<x.data.length then 5 else 0)
 else 4
def size (x:aP):Nat:=if check x≠0 then 0 else if x.tag=2 then 9 else 41+x.data.length
def body (x:aP):Bs:=le (size x) 4++[UInt8.ofNat x.tag.toNat]++(if x.tag=2 then [] else x.key)++x.data
def encode (x:aP):Bs×Int:=if check x≠0 then ([],check x) else (le (crc (body x)) 4++body x,0)
def zeroE:aP:=⟨0,zero32,[]⟩
def fits (tag:UInt8) (n:Nat):Bool:=
 if tag=0 then decide (41≤n∧n≤16425) else if tag=1 then decide (n=41) else if tag=2 then decide (n=9) else false
def read (b:Bs):aP×Nat×Int:=
 if b.length<9 then (zeroE,0,3)
 else
  let n:=num ((b.drop 4).take 4)
  if fits (b.getD 8 0) n=false then (zeroE,0,4)
  else if b.length<n then (zeroE,0,3)
  else if crc ((b.take n).drop 4)≠num (b.take 4) then (zeroE,0,13)
  else if 41≤n then (⟨(b.getD 8 0).toNat,(b.drop 9).take 32,(b.take n).drop 41⟩,n,0)
  else (⟨(b.getD 8 0).toNat,zero32,[]⟩,n,0)
end Go.aj
namespace Go.Proofs.YtiglchkhikciiaaGreatDoor
open Go Go.Sl Go.ay Go.MapKept Go.RowKit
section
variable {w0 w:World}{F:List aG}{v bv:Value}
def Half (w:World):Prop:=∀ i,i<16→w.cell? ⟨0,i,none⟩=some (.int .u32 (aj.half.getD i 0:Nat))
theorem Vh (s:Nat) (hs:s<4294967296):bits .xor .u32 IntKind.u32.max (s:Int)=((4294967295 - s:Nat):Int):=by
 have h1:IntKind.u32.max=((4294967295:Nat):Int):=by decide
 rw [h1,u32_xor_nat _ _ oQ hs]
 congr 1
 have h2:(4294967295 ^^^ s)=(BitVec.allOnes 32 ^^^ BitVec.ofNat 32 s).toNat:=by
  rw [BitVec.toNat_xor,BitVec.toNat_allOnes,BitVec.toNat_ofNat,akN hs]
 rw [h2,BitVec.allOnes_xor,BitVec.toNat_not,BitVec.toNat_ofNat,akN hs]
theorem PL (y:Nat) (hy:y<4294967296):bits .and .u32 (y:Int) 15=((y%16:Nat):Int):=by
 have:=u32_and_nat y 15 hy oQ
 rw [nat_mask4]at this
 exact this
theorem Yo (y h:Nat) (hy:y<4294967296) (hh:h<4294967296):bits .xor .u32 ((y:Int) / 16) (h:Int)=((y / 16 ^^^ h:Nat):Int):=by
 have:=u32_xor_nat (y / 16) h oQ hh
 rw [← this]
 rfl
theorem aaZ (s:Nat) (hs:s<4294967296) (l:Bs) (hH:Ro w0 F Half) (hr:Ro w0 F (bg 1 bv (aA l))) (h:Sat w0 w F) (hl:l.length≤1099511627776) :
  Calls Tryz.prog 187 #[.int .u32 s,bv] w (aO fun v w'=>v = .int .u32 (aj.BA s l:Nat)∧w=w'):=by
 obtain ⟨a,n,c,rfl,hn,_⟩:=id (hr w h)
 rw [aV,aiw]at hn
 subst hn
 have hnot:=Vh s hs
 obtain ⟨t0,ht0⟩:∃ t0,t0=4294967295 - s:=⟨_,rfl⟩
 rw [← ht0]at hnot
 have ht:t0<4294967296:=by omega
 have Hr:=uQ hr;have hHw:=uQ (hH w h);have Hl:=uQ hl;have Ht:=uQ ht;have Zu:=uQ ht0
 clear hr hH hl hs ht ht0
 go_enter Tryz.func187,Tryz.ntmps187
 go_wp2_with fail
 clear hnot
 go_loopg [5,12] l.length (fun g xv iq wr=>∃ (i:Nat),g=l.length - i∧i≤l.length∧iq = .int .i64 i∧xv = .int .u32 ((l.take i).foldl aj.rJ t0:Nat)∧wr=w)
 case atStart=>exact ⟨0,rfl,afm _,rfl,rfl,rfl⟩
 case round=>
  obtain ⟨i,rfl,hi,rfl,rfl,rfl⟩:=hrel
  have CX:(l.take i).foldl aj.rJ t0<4294967296:=aj.RQ _ _ Ht.out
  by_cases hi':i<l.length
  ·have hb:(aA l)[i]?=some (.int .u8 (l[i]'hi').toNat):=by unfold aA;simp [hi']
   obtain ⟨bk,off,rfl,c1⟩:=zZ (Hr.out _ h) hb
   have hnext:(l.take (i+1)).foldl aj.rJ t0=aj.zB (aj.zB ((l.take i).foldl aj.rJ t0 ^^^ (l[i]'hi').toNat)):=by
    rw [ajQ hi',ak1];rfl
   have hic:(i:Int)<(l.length:Int):=by omega
   have hwi:IntKind.i64.wrap ((i:Int)+1)=(i:Int)+1:=acI _ (by have h1:=Hl.out;omega)
   have hcb:=(l[i]'hi').toNat_lt
   have uV:=uQ hnext
   clear hb hnext
   generalize (l[i]'hi').toNat=cb at *
   generalize (l.take i).foldl aj.rJ t0=x at *
   have e1:=u32_xor_nat x cb CX oQ
   have hy1:x ^^^ cb<4294967296:=aj.yU CX oQ
   unfold aj.zB at uV
   generalize x ^^^ cb=y1 at *
   have e2:=PL y1 hy1
   have hz1:y1%16<16:=akC _ oQ
   have g1:=hHw.out (y1%16) hz1
   have e3:=Yo y1 _ hy1 (aj.Fb (y1%16))
   have hy2:y1 / 16 ^^^ aj.half.getD (y1%16) 0<4294967296:=aj.yU oQ (aj.Fb _)
   generalize aj.half.getD (y1%16) 0=h1 at *
   generalize y1%16=z1 at *
   generalize y1 / 16 ^^^ h1=y2 at *
   have e4:=PL y2 hy2
   have hz2:y2%16<16:=akC _ oQ
   have g2:=hHw.out (y2%16) hz2
   have e5:=Yo y2 _ hy2 (aj.Fb (y2%16))
   generalize aj.half.getD (y2%16) 0=h2 at *
   generalize y2%16=z2 at *
   generalize y2 / 16 ^^^ h2=y3 at *
   have hcm:(cb:Int)%4294967296=(cb:Int):=by omega
   have ajB:(z1:Int)<16:=by omega
   have ajC:(z2:Int)<16:=by omega
   clear CX hy1 hy2 hcb
   go_wp2
   go_roundg (l.length - (i+1))
   case measure=>omega
   case rel=>exact ⟨i+1,rfl,aiy hi',by first|rfl|go_num,by rw [uV.out],rfl⟩
  ·obtain rfl:i=l.length:=by omega
   have hic:¬ (l.length:Int)<(l.length:Int):=by omega
   rw [aiv]at *
   have hn2:=Vh _ CX
   have hfin:aj.BA s l=4294967295 - l.foldl aj.rJ t0:=by unfold aj.BA;rw [Zu.out]
   rw [← hfin]at hn2
   generalize l.foldl aj.rJ t0=x at *
   clear hi hi' CX hfin
   go_wp2
   go_ret
   exact ⟨_,rfl,rfl,rfl⟩
theorem J5 (l:Bs) (hH:Ro w0 F Half) (hr:Ro w0 F (bg 1 bv (aA l))) (h:Sat w0 w F) (hl:l.length≤1099511627776) :
  Calls Tryz.prog 130 #[bv] w (aO fun v w'=>v = .int .u32 (aj.crc l:Nat)∧w=w'):=by
 have ha:=aaZ 0 oQ l hH hr h hl
 have hcast:((0:Nat):Int)=0:=rfl
 rw [hcast]at ha
 clear hcast
 obtain ⟨a,n,c,rfl,hn,_⟩:=id (hr w h)
 go_enter Tryz.func130,Tryz.ntmps130
 go_wp2_with fail
 refine ha.mono ?_
 rintro e w1 ⟨v,rfl,rfl,rfl⟩
 clear ha
 go_wp2
 go_ret
 exact ⟨_,rfl,rfl,rfl⟩
end
section
variable {w0 w:World}{F:List aG}{m fb nb b r:Nat}{M:ay}{bs:List Nat}{wv v bv:Value}{s:ByteArray}{l:Names}{fs:List bC}{K:Nat}
theorem UJ (hM:M.Ok K) (hK:K≤1099511627776) (hl:bs.length=M.files.length) (x:gV) (h:Sat w0 w (tH m M bs fb nb wv++F)) :
  Calls Tryz.prog 158 #[ptr m,.agg #[.string x.fr,.string x.to,mO bs x]] w (aO fun _ w'=>Sat w0 w' (aH m (M.link x)::F)):=by
 refine (UH x (h.sel 5 [0,1,4,2,3] rfl rfl) (adr hM.budget hK)).mono ?_
 rintro e w1 ⟨v,rfl,wv',hS⟩
 refine ⟨v,rfl,aH.shut (bs:=bs) (fb:=fb) (nb:=nb) (wv:=wv') (by simpa [ay.link] using hl) ?_⟩
 exact hS.sel 5 [0,1,3,4,2] rfl rfl
theorem yJ (hM:M.Ok K) (hK:K≤1099511627776) (h:Sat w0 w (aH m M::F)) (s:ByteArray) :
  Calls Tryz.prog 104 #[ptr m,.string s] w (aO fun v w'=>v=errno (M.remove s).2∧Sat w0 w' (aH m (M.remove s).1::F)):=by
 obtain ⟨bs,fb,nb,wv,hl,hR⟩:=aH.open h
 cases ho:M.off
 ·cases hn:bP M.now s with
  |none=>
   have hf:=xY (s:=s) hR ho hn
   have bH:Hid (M.remove s=(M,9)):=by show _=_;simp [ay.remove,ho,hn]
   clear ho hn
   go_enter Tryz.func104,Tryz.ntmps104
   go_wp2_with (first|(go_at_call 103;refine hf.mono ?_;rintro e w1 ⟨v,rfl,rfl,rfl⟩))
   go_ret
   exact ⟨errno 9,rfl,by rw [bH.out],by rw [bH.out];exact h⟩
  |some i=>
   have hf:=x8 (s:=s) hR ho hn
   have hst:=yO hR hM.left
   cases hstep:M.step.2
   ·rw [hstep]at hst
    have bH:Hid (M.remove s=(M.step.1,12)):=by show _=_;simp [ay.remove,ho,hn,hstep]
    clear ho hn hstep
    go_enter Tryz.func104,Tryz.ntmps104
    go_wp2_with (first|(go_at_call 103;refine hf.mono ?_;rintro e w1 ⟨v,rfl,rfl,rfl⟩)|(go_at_call 157;refine hst.mono ?_;rintro e w1 ⟨v,rfl,rfl,hS1⟩))
    go_ret
    refine ⟨errno 12,rfl,by rw [bH.out],?_⟩
    rw [bH.out]
    exact aH.shut (bs:=bs) (fb:=fb) (nb:=nb) (wv:=wv) (by rw [M.jv.2.2.2.1];exact hl) (qX hS1)
   ·rw [hstep]at hst
    have bH:Hid (M.remove s=(M.step.1.link ⟨s,ByteArray.empty,0⟩,0)):=by show _=_;simp [ay.remove,ho,hn,hstep]
    have hl':bs.length=M.step.1.files.length:=by rw [M.jv.2.2.2.1];exact hl
    have hlp:mO bs ⟨s,ByteArray.empty,0⟩ = .pointer none:=by unfold mO;rw [ac3 rfl]
    have xA:=uQ hl';have Jg:=uQ hlp
    clear ho hn hstep hl' hlp
    generalize hq:bs.getD i 0=q at hf
    have Hq:=uQ hq;clear hq
    go_enter Tryz.func104,Tryz.ntmps104
    go_wp2_with (first|(go_at_call 103;refine hf.mono ?_;rintro e w1 ⟨v,rfl,rfl,rfl⟩)|(go_at_call 157;fail))
    refine hst.mono ?_
    rintro e w1 ⟨v,rfl,rfl,hS1⟩
    have hlk:=UJ hM.step hK xA.out ⟨s,ByteArray.empty,0⟩ (qX hS1)
    rw [Jg.out]at hlk
    go_wp2_with (go_at_call 158;go_must (refine hlk.mono ?_);rintro e w2 ⟨v2,rfl,hS2⟩)
    go_ret
    refine ⟨errno 0,rfl,by rw [bH.out],?_⟩
    rw [bH.out]
    exact hS2
 ·have hf:=xZ (s:=s) hR ho
  have bH:Hid (M.remove s=(M,12)):=by show _=_;simp [ay.remove,ho]
  clear ho
  go_enter Tryz.func104,Tryz.ntmps104
  go_wp2_with (first|(go_at_call 103;refine hf.mono ?_;rintro e w1 ⟨v,rfl,rfl,rfl⟩))
  go_ret
  exact ⟨errno 12,rfl,by rw [bH.out],by rw [bH.out];exact h⟩
end
section
variable {w0 w W:World}{F:List aG}{m fb nb b r:Nat}{M P:ay}{bs:List Nat}{wv v bv dv av cv nv ov lv:Value}{s:ByteArray}{fs:List bC}{K:Nat}{f:bC}
theorem aaF {l:Bs} (h:Sat w0 w (bJ v l::F)):kV v:=by
 rcases Sat.jQ h with ⟨rfl,_⟩|⟨b,n',cap',cs,rfl,_,hn,_,hcm,_,_⟩
 ·exact ⟨_,0,0,rfl,acy _,by omega⟩
 ·exact ⟨_,_,_,rfl,hn,hcm⟩
theorem qj {a:Option Addr}{n c:Nat}{l:Bs} (h:Sat w0 w (bJ (.slice a n c) l::F)){i:Nat} (hi:i<l.length) (x:UInt8) :
  ∃ g,a=some ⟨g,0,none⟩∧w.cell? ⟨g,i,none⟩=some (.int .u8 (l[i]'hi).toNat)∧w.frozen? ⟨g,i,none⟩=false∧Sat w0 (w.setCell ⟨g,i,none⟩ (.int .u8 x.toNat)) (bJ (.slice a n c) (l.set i x)::F):=by
 rcases Sat.jQ h with ⟨_,hx,_⟩|⟨g,n',cap',cs,he,h1,h2,h3,h4,h5,h6⟩
 ·have:(aA l).length=0:=by rw [hx];rfl
  rw [aV]at this;omega
 ·cases he
  have hg:(aA l)[i]?=some (.int .u8 (l[i]'hi).toNat):=by unfold aA;simp [hi]
  refine ⟨g,rfl,h6.cellAt i _ (jS h5 hg),h6.nR i,?_⟩
  have h7:=h6.set i (.int .u8 x.toNat)
  refine Sat.kC h7 ?_ h2 (by simpa using h3) h4 ?_
  ·rw [aV,aj0,← aV l];exact h1
  ·rw [Array.toList_setIfInBounds,List.take_set,h5]
   unfold aA
   rw [List.map_set]
theorem zo {l:Bs} (h:Sat w0 w (bJ v l::F)):∃ a n c,v = .slice a n c∧n≤c∧c≤9223372036854775807∧n=l.length:=by
 rcases Sat.jQ h with ⟨rfl,hx,_⟩|⟨b,n',cap',cs,rfl,hl,hn,hc,hcm,_,_⟩
 ·refine ⟨_,0,0,rfl,acy _,by omega,?_⟩
  have:(aA l).length=0:=by rw [hx];rfl
  rw [aV]at this;exact this.symm
 ·refine ⟨_,_,_,rfl,hn,hcm,?_⟩
  rw [aV,aiw]at hl;exact hl.symm
theorem ahL {l:List ByteArray}{i:Nat}{x:ByteArray} (h:l[i]?=some x):(strs l)[i]?=some (.string x):=by
 unfold strs
 rw [aix,h];rfl
theorem ahN (l:List ByteArray):(strs l).length=l.length:=by unfold strs;simp
theorem Ro.more {p:World→Prop}{L:List aG} (h:Ro w0 F p):Ro w0 (L++F) p:=by
 induction L with
 |nil=>exact h
 |cons A L ih=>exact ih.cons
end
section
variable {w0 w:World}{F:List aG}{v bv:Value}
theorem zW (x:Nat) (hx:x<18446744073709551616) (h:Sat w0 w F) :
  Calls Tryz.prog 163 #[.int .u64 x,.int .i64 4] w (aO fun v w'=>Sat w0 w' (bJ v (aj.le x 4)::F)∧∃ a,v = .slice a 4 4):=by
 have Hx:=uQ hx
 clear hx
 have hmk:∀ w,(Instr.makeSlice 36 (.int .i64 4) (.int .i64 4)).run Tryz.prog w = .ok (.slice (some ⟨w.heap.size,0,none⟩) 4 4) (w.alloc (.cells #[.int .u8 0,.int .u8 0,.int .u8 0,.int .u8 0] 5)):=fun w=>by kernel_rfl
 go_enter Tryz.func163,Tryz.ntmps163
 go_wp2_with fail
 have hA:=h.alloc (.cells #[.int .u8 0,.int .u8 0,.int .u8 0,.int .u8 0] 5)
 have hB:Sat w0 (w.alloc (.cells #[.int .u8 0,.int .u8 0,.int .u8 0,.int .u8 0] 5)) (bJ (.slice (some ⟨w.heap.size,0,none⟩) 4 4) [0,0,0,0]::F):=Sat.kC hA rfl (acy _) (acy _) (by unfold maxLen;omega) rfl
 obtain ⟨b0,b1,b2,b3,hb0,hb1,hb2,hb3,hle⟩:∃ b0 b1 b2 b3:UInt8,(x:Int)%256=b0.toNat∧(x:Int) / 256%256=b1.toNat∧(x:Int) / 65536%256=b2.toNat∧(x:Int) / 16777216%256=b3.toNat∧aj.le x 4=[b0,b1,b2,b3]:=by
  refine ⟨_,_,_,_,?_,?_,?_,?_,rfl⟩
  all_goals (rw [akH];omega)
 have o7:=uQ hle
 clear hle hmk hA
 generalize w.heap.size=q at *
 go_loopg [17] 4 (fun g iq wr=>∃ (i:Nat) (l':Bs),g=4 - i∧i≤4∧iq = .int .i64 i∧l'=(match i with|0=>[0,0,0,0]|1=>[b0,0,0,0]|2=>[b0,b1,0,0]|3=>[b0,b1,b2,0]|_=>[b0,b1,b2,b3])∧Sat w0 wr (bJ (.slice (some ⟨q,0,none⟩) 4 4) l'::F))
 case atStart=>exact ⟨0,_,rfl,by omega,rfl,rfl,hB⟩
 case round=>
  obtain ⟨i,l',rfl,hi,rfl,hl',hS⟩:=hrel
  clear hB
  obtain rfl|rfl|rfl|rfl|rfl:i=0∨i=1∨i=2∨i=3∨i=4:=by omega
  ·obtain rfl:l'=[0,0,0,0]:=hl'
   obtain ⟨g,he,e0,e1,hS5⟩:=qj (i:=0) hS (by simp) b0
   cases he
   go_wp2_with fail
   go_roundg 3
   case measure=>omega
   case rel=>exact ⟨1,[b0,0,0,0],rfl,by omega,rfl,rfl,hS5⟩
  ·obtain rfl:l'=[b0,0,0,0]:=hl'
   obtain ⟨g,he,e0,e1,hS5⟩:=qj (i:=1) hS (by simp) b1
   cases he
   go_wp2_with fail
   go_roundg 2
   case measure=>omega
   case rel=>exact ⟨2,[b0,b1,0,0],rfl,by omega,rfl,rfl,hS5⟩
  ·obtain rfl:l'=[b0,b1,0,0]:=hl'
   obtain ⟨g,he,e0,e1,hS5⟩:=qj (i:=2) hS (by simp) b2
   cases he
   go_wp2_with fail
   go_roundg 1
   case measure=>omega
   case rel=>exact ⟨3,[b0,b1,b2,0],rfl,by omega,rfl,rfl,hS5⟩
  ·obtain rfl:l'=[b0,b1,b2,0]:=hl'
   obtain ⟨g,he,e0,e1,hS5⟩:=qj (i:=3) hS (by simp) b3
   cases he
   go_wp2_with fail
   go_roundg 0
   case measure=>omega
   case rel=>exact ⟨4,[b0,b1,b2,b3],rfl,by omega,rfl,rfl,hS5⟩
  ·obtain rfl:l'=[b0,b1,b2,b3]:=hl'
   go_wp2
   go_ret
   exact ⟨_,rfl,by rw [o7.out];exact hS,_,rfl⟩
end
end Go.Proofs.YtiglchkhikciiaaGreatDoor
namespace Go.Proofs.YtiglchkhikciiaaGreatDoor
open Go Go.Sl Go.ay Go.ChangeShapes Go.WideShapes Go.RowKit
section
variable {H:Type}{enc:TypeId×Value→H}{P:Program}{W:World}{base:Nat}{spare:Nat→Bool}{held:Bool}
theorem Ry {α:Type} (k:Nat) (hk:0<k):∀ (xs:List (List α)) (_:∀ x∈xs,x.length=k) (i:Nat) (y:α),xs.flatten[i]?=some y→∃ x,xs[i / k]?=some x∧x[i%k]?=some y
 |[],_,_,_,h=>by simp at h
 |x::xs,hl,i,y,h=>by
  have hx:=hl x (.head _)
  rw [ale]at h
  rcases akf i k with hi|hi
  ·rw [adV oQ]at h
   refine ⟨x,?_,?_⟩
   ·rw [Nat.div_eq_of_lt hi];rfl
   ·rw [akN hi];exact h
  ·rw [adQ oQ,hx]at h
   obtain ⟨z,h1,h2⟩:=Ry k hk xs (fun q hq=>hl q (.tail _ hq)) (i - k) y h
   have e1:i / k=(i - k) / k+1:=by
    conv=>lhs;rw [show i=(i - k)+k by omega]
    rw [Nat.add_div_right _ hk]
   have e2:i%k=(i - k)%k:=Nat.mod_eq_sub_mod hi
   exact ⟨z,by rw [e1];exact h1,by rw [e2];exact h2⟩
theorem Rz {α:Type} (k:Nat):∀ (xs:List (List α)) (_:∀ x∈xs,x.length=k),xs.flatten.length=xs.length * k
 |[],_=>by simp
 |x::xs,hl=>by
  rw [ale,aal,Rz k xs (fun q hq=>hl q (.tail _ hq)),hl x (.head _),aja,Nat.succ_mul];omega
theorem UM {α:Type}{n:Nat}{p:Nat→α→Prop} (h:∀ i,i<n→∃ x,p i x):∃ l:List α,l.length=n∧∀ i x,l[i]?=some x→p i x:=by
 induction n with
 |zero=>exact ⟨[],rfl,fun i x h=>by simp at h⟩
 |succ n ih=>
  obtain ⟨l,h1,h2⟩:=ih fun i hi=>h i (Nat.lt_succ_of_lt hi)
  obtain ⟨x,hx⟩:=h n (Nat.lt_succ_self n)
  refine ⟨l++[x],by simp [h1],fun i y hy=>?_⟩
  rcases akT i n with hlt|rfl|hgt
  ·rw [adV oQ]at hy;exact h2 i y hy
  ·rw [adQ oQ,h1,akb]at hy
   cases hy;exact hx
  ·rw [ajH (by simp;omega)]at hy;cases hy
theorem VA {t e:TypeId}{k fuel:Nat}{v:Value}{x:DataW H×List MemPlace} (ht:P.underlying t=some (.slice e)) (hc:P.cellsOf e=k) (hk:0<k) (h:DataW.trod enc P W base spare held fuel t [v]=some x) :
  ∃ elems:List (List Value),bg k v elems.flatten W∧kV v∧∀ cs∈elems,cs.length=k∧∃ n y,DataW.trod enc P W base spare held n e cs=some y:=by
 rcases Go.Deep.open_slice ht h with ⟨hcs,_⟩|⟨a,len,cap,m,n,D,Pl,hcs,hb,hl,hm,hmm,_,hx⟩
 ·obtain rfl:v = .slice none 0 0:=by simpa using hcs
  exact ⟨[],yI _ _ _,⟨_,_,_,rfl,acy _,by omega⟩,by simp⟩
 ·obtain rfl:v = .slice (some a) len cap:=by simpa using hcs
  have hlm:len≤m:=by rw [hmm];split <;> omega
  rw [hc]at hx
  obtain ⟨l,l1,l2⟩:=UM (n:=len) fun i hi=>hx i oQ
  have hlen:∀ cs∈l,cs.length=k:=by
   intro cs hcs
   obtain ⟨i,hi,rfl⟩:=akp hcs
   obtain ⟨h1,_⟩:=l2 i _ (aak hi)
   exact (World.cells?_some h1).2.1
  refine ⟨l,⟨some a,len,cap,rfl,by rw [Rz k l hlen,l1],fun i y hy=>⟨a,rfl,?_⟩⟩,⟨_,_,_,rfl,hl,by unfold maxLen at hm;omega⟩,fun cs hcs=>⟨hlen cs hcs,?_⟩⟩
  ·obtain ⟨cs,h1,h2⟩:=Ry k hk l hlen i y hy
   obtain ⟨h3,_⟩:=l2 _ _ h1
   have h4:=(World.cells?_some h3).2.2 (i%k) (akC _ hk)
   rw [Go.Deep.add_add,h2]at h4
   rw [← h4]
   congr 2
   rw [ajW];exact (Nat.div_add_mod i k).symm
  ·obtain ⟨i,hi,rfl⟩:=akp hcs
   obtain ⟨_,h2⟩:=l2 i _ (aak hi)
   exact ⟨n,_,h2⟩
theorem afi {t:TypeId}{fs:Array Field}{fuel:Nat}{cs:List Value}{x:DataW H×List MemPlace} (ht:P.underlying t=some (.struct fs)) (h:DataW.trod enc P W base spare held fuel t cs=some x) :
  cs.length=P.cellsOf t∧∀ (i:Nat) (f:Field),fs[i]?=some f→∃ n y,DataW.trod enc P W base spare held n f.type ((cs.drop f.offset).take (P.cellsOf f.type))=some y:=by
 obtain ⟨xs,n,_,_,hl,hxl,hf⟩:=DataW.trod_struct ht h
 refine ⟨hl,fun i f hi=>⟨n,?_⟩⟩
 have hlt:i<xs.length:=by rw [hxl];exact (akq.1 hi).1
 exact ⟨xs[i],by rw [hf i f hi];exact aak hlt⟩
theorem LY {α β:Type}{f:α→β}{p:α→Prop}:∀ (l:List β) (_:∀ y∈l,∃ x,f x=y∧p x),∃ xs:List α,xs.map f=l∧∀ x∈xs,p x
 |[],_=>⟨[],rfl,by simp⟩
 |y::l,h=>by
  obtain ⟨x,h1,h2⟩:=h y (.head _)
  obtain ⟨xs,h3,h4⟩:=LY l fun z hz=>h z (.tail _ hz)
  refine ⟨x::xs,by simp [h1,h3],fun z hz=>?_⟩
  rcases aer.1 hz with rfl|hz
  ·exact h2
  ·exact h4 z hz
def DT (zs:List Int):Bs:=zs.map fun z=>UInt8.ofNat z.toNat
theorem Qn {zs:List Int} (h:∀ z∈zs,(Lit.int .u8 z).wf=true):aA (DT zs)=zs.map (.int .u8):=by
 unfold aA DT
 rw [aj9]
 apply akz
 intro z hz
 have hb:=bounds_u8 (h z hz)
 simp only [Function.comp,Value.int.injEq,true_and]
 rw [akH]
 omega
theorem Uo {t e:TypeId}{k:IntKind}{fuel:Nat}{v:Value}{x:DataW H×List MemPlace} (ht:P.underlying t=some (.slice e)) (he:P.underlying e=some (.int k)) (hc:P.cellsOf e=1) (h:DataW.trod enc P W base spare held fuel t [v]=some x) :
  ∃ l:List Int,bg 1 v (l.map (.int k)) W∧kV v∧∀ z∈l,(Lit.int k z).wf=true:=by
 obtain ⟨elems,h1,h2,h3⟩:=VA ht hc oQ h
 obtain ⟨l,h4,h5⟩:=LY (f:=fun z:Int=>[Value.int k z]) (p:=fun z=>(Lit.int k z).wf=true) elems fun cs hcs=>by
  obtain ⟨_,n,y,h6⟩:=h3 cs hcs
  obtain ⟨z,hz,_,hw⟩:=DataW.trod_int he h6
  exact ⟨z,hz.symm,hw⟩
 refine ⟨l,?_,h2,h5⟩
 rw [← h4]at h1
 have:(l.map fun z:Int=>[Value.int k z]).flatten=l.map (.int k):=by
  clear h1 h4 h5
  induction l with
  |nil=>rfl
  |cons z l ih=>simp only [ag8,ale,ih];rfl
 rw [this]at h1
 exact h1
theorem adz {t e:TypeId}{fuel:Nat}{v:Value}{x:DataW H×List MemPlace} (ht:P.underlying t=some (.slice e)) (he:P.underlying e=some (.int .u8)) (hc:P.cellsOf e=1) (h:DataW.trod enc P W base spare held fuel t [v]=some x) :
  ∃ l:Bs,bg 1 v (aA l) W∧kV v:=by
 obtain ⟨l,h1,h2,h3⟩:=Uo ht he hc h
 exact ⟨DT l,by rw [Qn h3];exact h1,h2⟩
theorem adA {t e:TypeId}{fuel:Nat}{v:Value}{x:DataW H×List MemPlace} (ht:P.underlying t=some (.slice e)) (he:P.underlying e=some (.int .i64)) (hc:P.cellsOf e=1) (h:DataW.trod enc P W base spare held fuel t [v]=some x) :
  ∃ l:List Int,bg 1 v (ints l) W∧kV v∧∀ z∈l,rW z:=by
 obtain ⟨l,h1,h2,h3⟩:=Uo ht he hc h
 exact ⟨l,h1,h2,fun z hz=>bounds_i64 (h3 z hz)⟩
theorem aaK {w:World}{a:Addr}{v:Value} (h:Sat W w [Sl.old W]) (hc:W.cell? a=some v):w.cell? a=some v:=by
 have hlt:a.block<W.heap.size:=by
  rcases akf a.block W.heap.size with h1|h1
  ·exact h1
  ·unfold World.cell? at hc
   rw [ak0 h1]at hc
   simp at hc
 unfold World.cell? at hc ⊢
 rw [h.old hlt];exact hc
theorem MS {v:Value}{k:Nat}{xs:List Value} (h:bg k v xs W):Ro W [Sl.old W] (bg k v xs):=by
 intro w hw
 obtain ⟨a,n,c,he,hl,hx⟩:=h
 refine ⟨a,n,c,he,hl,fun i x hi=>?_⟩
 obtain ⟨b,hb,hc⟩:=hx i x hi
 exact ⟨b,hb,aaK hw hc⟩
theorem own:ownKnob Tryz.prog.godebug=none:=by kernel_rfl
theorem laidOut:laidOutB Tryz.prog=true:=by kernel_rfl
end
end Go.Proofs.YtiglchkhikciiaaGreatDoor
namespace Go.Proofs.YtiglchkhikciiaaGreatDoor
open Go Go.Sl Go.ay Go.MapKept Go.RowKit
section
variable {w0 w:World}{F:List aG}{v bv dv:Value}{q:Nat}
section
variable {P:Program}
theorem NI {e:TypeId}{k:IntKind} (he:P.underlying e=some (.int k)) (xs:Array Value) (i:Nat) (v:Value) (hv:xs[i]?=some v) (w:World):(part e xs i).run P w = .ok v w:=by
 unfold part isAgg
 simp [ajO he,hv]
theorem NH (d:Nat){e:TypeId}{k:IntKind} (he:P.underlying e=some (.int k)) (ks ls:List Int):∀ (is:List Nat),(∀ i∈is,i<ks.length∧i<ls.length)→∀ w,
  (Op.eqItems (d+1) e 1 (ks.map (.int k)).toArray (ls.map (.int k)).toArray is).run P w = .ok (is.all fun i=>ks.getD i 0==ls.getD i 0) w
 |[],_,w=>by simp [Op.eqItems]
 |i::is,h,w=>by
  obtain ⟨h1,h2⟩:=h i (.head _)
  have a1:((ks.map (Value.int k)).toArray)[i * 1]?=some (.int k (ks.getD i 0)):=by
   rw [aiw,abL,aix,aak h1,adP,aak h1];rfl
  have a2:((ls.map (Value.int k)).toArray)[i * 1]?=some (.int k (ls.getD i 0)):=by
   rw [aiw,abL,aix,aak h2,adP,aak h2];rfl
  unfold Op.eqItems
  simp only [adO,NI he _ _ _ a1,NI he _ _ _ a2,ac2,run_equalIn_int w d e k k _ _ he]
  have ih:=NH d he ks ls is (fun j hj=>h j (.tail _ hj)) w
  cases hb:(ks.getD i 0==ls.getD i 0)
  ·simp only [alE,hb,Bool.not_false,akL,aeC,Bool.false_and]
  ·simp only [alE,hb,Bool.not_true,ajK,akO,ih,Bool.true_and]
theorem all_eq (ks ls:List Int) (h:ks.length=ls.length):((List.range ks.length).all fun i=>ks.getD i 0==ls.getD i 0)=decide (ks=ls):=by
 rw [akJ,ajE,adN]
 constructor
 ·intro hh
  apply List.ext_getElem h
  intro i h1 h2
  have:=hh i (List.mem_range.2 h1)
  rw [akr,adP,adP,aak h1,aak h2]at this
  exact this
 ·rintro rfl i _
  simp
theorem agR {t e:TypeId}{n:Nat}{k:IntKind}{i:TypeInfo} (hu:P.underlying t=some (.array n e)) (he:P.underlying e=some (.int k)) (hi:P.info? e=some i) (hc:P.cellsOf e=1) (ks ls:List Int) (h1:ks.length=n) (h2:ls.length=n) (w:World) :
  (binOp .neq t (.agg (ks.map (.int k)).toArray) (.agg (ls.map (.int k)).toArray)).run P w = .ok (.bool (!decide (ks=ls))) w:=by
 have h:=run_equalIn_array (P:=P) w 9999 (ks.map (.int k)).toArray (ls.map (.int k)).toArray hu hi
 rw [hc,NH 9998 he ks ls (List.range n) (fun i hi=>by have:=List.mem_range.1 hi;omega)]at h
 rw [run_neq_struct,h,← h1,all_eq ks ls oQ]
 rfl
theorem agI {t e:TypeId}{n:Nat}{k:IntKind}{i:TypeInfo} (hu:P.underlying t=some (.array n e)) (he:P.underlying e=some (.int k)) (hi:P.info? e=some i) (hc:P.cellsOf e=1) (ks ls:List Int) (h1:ks.length=n) (h2:ls.length=n) (w:World) :
  (Op.equalIn 10000 t (.agg (ks.map (.int k)).toArray) (.agg (ls.map (.int k)).toArray)).run P w = .ok (decide (ks=ls)) w:=by
 have h:=run_equalIn_array (P:=P) w 9999 (ks.map (.int k)).toArray (ls.map (.int k)).toArray hu hi
 rw [hc,NH 9998 he ks ls (List.range n) (fun i hi=>by have:=List.mem_range.1 hi;omega)]at h
 rw [h,← h1,all_eq ks ls oQ]
theorem agP (w:World) (g off:Nat) (t ty:TypeId) (cs ks:Array Value) (fr:Nat×Nat) (d:TypeDesc) (hg:w.heap[g]?=some (.cells cs t fr)) (hk:∀ j v,ks[j]?=some v→cs[off+j]?=some v)
  (hu:P.underlying ty=some d) (hd:(match d with | .struct _ | .array _ _=>true|_=>false)=true) (hi:(P.info? ty).map (·.size)=some ks.size) :
  (loadVar ty ⟨g,off,none⟩).run P w = .ok (.agg ks) w:=by
 have hl:(loadCells ⟨g,off,none⟩ ks.toList.length).run P w = .ok ks.toList.toArray w:=
  run_loadCells_list (P:=P) w ⟨g,off,none⟩ ks.toList (fun j v hv=>by
   have hadd:(⟨g,off,none⟩:Addr).add j=⟨g,off+j,none⟩:=by unfold Addr.add;split <;> simp_all
   rw [hadd,cell_of_row w g _ cs t fr hg]
   exact hk j v (by simpa using hv))
 cases hq:P.info? ty with
 |none=>simp [hq]at hi
 |some i=>
  have hs:i.size=ks.size:=by simpa [hq] using hi
  have hagg:(isAgg ty).run P w = .ok true w:=by
   unfold isAgg
   rw [adO,ajO hu w]
   cases d <;> simp_all
  simp only [adu,Array.toArray_toList]at hl
  simp [loadVar,hagg,sizeOf,typeInfo,hq,hs,hl]
theorem Ox {ops:Array Oper}{rest:List Oper}{o:Oper}{a:Act}{w:World}{Q:Exit→Act→World→Prop} (hgd:o.guard=none) (ty:TypeId) (x:Operand) (ho:o.op = .load ty x)
  (g off:Nat) (hx:a.eval x = .pointer (some ⟨g,off,none⟩)) (t:TypeId) (cs ks:Array Value) (fr:Nat×Nat) (d:TypeDesc) (hg:w.heap[g]?=some (.cells cs t fr)) (hk:∀ j v,ks[j]?=some v→cs[off+j]?=some v)
  (hu:P.underlying ty=some d) (hd:(match d with | .struct _ | .array _ _=>true|_=>false)=true) (hi:(P.info? ty).map (·.size)=some ks.size)
  (h:wpList P ops Q rest (a.put o.dst (.agg ks)) w):wpList P ops Q (o::rest) a w:=
 ajx hgd fun _ hK=>by
  unfold Oper.wp execOp
  simp only [ho,hx,Instr.loadAt,Instr.sureAddr,adO,aeC,ac2,agP w g off t ty cs ks fr d hg hk hu hd hi]
  exact hK _ _ h
end
def kW (x:aj.aP) (dv:Value):List Value:= .int .i64 x.tag::(aA x.key++[dv])
def dG (x:aj.aP) (dv:Value):Array Value:=(kW x dv).toArray
theorem dW (x:aj.aP) (dv:Value) (hk:x.key.length=32):(dG x dv).size=34:=by unfold dG kW;simp [aA,hk]
theorem xX (x:aj.aP) (dv:Value):(dG x dv)[0]?=some (.int .i64 x.tag):=rfl
theorem BF (x:aj.aP) (dv:Value) (hk:x.key.length=32):(dG x dv)[33]?=some dv:=by
 unfold dG kW
 rw [abL,aj3,adQ (by rw [aV];omega),aV,hk];rfl
theorem Q8 (x:aj.aP) (dv:Value) (hk:x.key.length=32):∀ j v,(aA x.key).toArray[j]?=some v→(dG x dv)[1+j]?=some v:=by
 intro j v h
 rw [abL]at h
 have hj:j<(aA x.key).length:=(abl.1 h).1
 unfold dG kW
 rw [abL,alm,aj3,adV hj];exact h
theorem EH (k:Bs):aA k=(k.map fun b=>(b.toNat:Int)).map (.int .u8):=by unfold aA;rw [aj9];rfl
theorem Uu {k l:Bs} (h:(k.map fun b=>(b.toNat:Int))=l.map fun b=>(b.toNat:Int)):k=l:=by
 induction k generalizing l with
 |nil=>cases l with
  |nil=>rfl
  |cons=>simp at h
 |cons a k ih=>cases l with
  |nil=>simp at h
  |cons b l=>
   simp only [ag8,List.cons.injEq]at h
   rw [ih h.2]
   congr 1
   exact UInt8.toNat_inj.1 oQ
set_option maxRecDepth 20000 in
theorem U4 (k l:Bs) (hk:k.length=32) (hl:l.length=32) (w:World):(binOp .neq 31 (.agg (aA k).toArray) (.agg (aA l).toArray)).run Tryz.prog w = .ok (.bool (!decide (k=l))) w:=by
 obtain ⟨i,hi,_⟩:=rX
 have:=agR (P:=Tryz.prog) Tryz.underlying31 Tryz.underlying5 hi au (k.map fun b=>(b.toNat:Int)) (l.map fun b=>(b.toNat:Int)) (by simpa using hk) (by simpa using hl) w
 rw [EH,EH,this]
 congr 3
 rw [akJ,adN,adN]
 exact ⟨fun h=>Uu h,fun h=>by rw [h]⟩
set_option maxRecDepth 20000 in
theorem Ku (k l:Bs) (hk:k.length=32) (hl:l.length=32) (w:World):(Op.equalIn 10000 31 (.agg (aA k).toArray) (.agg (aA l).toArray)).run Tryz.prog w = .ok (decide (k=l)) w:=by
 obtain ⟨i,hi,_⟩:=rX
 have:=agI (P:=Tryz.prog) Tryz.underlying31 Tryz.underlying5 hi au (k.map fun b=>(b.toNat:Int)) (l.map fun b=>(b.toNat:Int)) (by simpa using hk) (by simpa using hl) w
 rw [EH,EH,this]
 congr 2
 rw [eq_iff_iff]
 exact ⟨fun h=>Uu h,fun h=>by rw [h]⟩
set_option maxRecDepth 20000 in
theorem ai9:(aA aj.zero32).toArray=#[.int .u8 0,.int .u8 0,.int .u8 0,.int .u8 0,.int .u8 0,.int .u8 0,.int .u8 0,.int .u8 0,.int .u8 0,.int .u8 0,.int .u8 0,.int .u8 0,.int .u8 0,.int .u8 0,.int .u8 0,.int .u8 0,.int .u8 0,.int .u8 0,.int .u8 0,.int .u8 0,.int .u8 0,.int .u8 0,.int .u8 0,.int .u8 0,.int .u8 0,.int .u8 0,.int .u8 0,.int .u8 0,.int .u8 0,.int .u8 0,.int .u8 0,.int .u8 0]:=rfl
set_option maxRecDepth 20000 in
theorem abP (k:Bs) (hk:k.length=32) (w:World):(Op.equalIn 10000 31 (.agg (aA k).toArray) (.agg #[.int .u8 0,.int .u8 0,.int .u8 0,.int .u8 0,.int .u8 0,.int .u8 0,.int .u8 0,.int .u8 0,.int .u8 0,.int .u8 0,.int .u8 0,.int .u8 0,.int .u8 0,.int .u8 0,.int .u8 0,.int .u8 0,.int .u8 0,.int .u8 0,.int .u8 0,.int .u8 0,.int .u8 0,.int .u8 0,.int .u8 0,.int .u8 0,.int .u8 0,.int .u8 0,.int .u8 0,.int .u8 0,.int .u8 0,.int .u8 0,.int .u8 0,.int .u8 0])).run Tryz.prog w = .ok (decide (k=aj.zero32)) w:=by
 rw [← ai9]
 exact Ku k _ hk rfl w
end
section
variable {w0 w:World}{F:List aG}{v bv dv:Value}{q:Nat}
set_option maxRecDepth 20000 in
theorem Qs (x:aj.aP) (hk:x.key.length=32) (a:Option Addr) (c:Nat) (h:Sat w0 w F) :
  Calls Tryz.prog 161 #[.agg (dG x (.slice a x.data.length c))] w (aO fun v w'=>v=errno (aj.check x)∧Sat w0 w' F):=by
 have hA:=h.alloc (.cells (dG x (.slice a x.data.length c)) 78)
 have c0:=hA.cellAt 0 _ (xX x _)
 have xP:=hA.cellAt 33 _ (BF x _ hk)
 have hat:=hA.at
 have hnk:=abP x.key hk
 have hkk:=Q8 x (.slice a x.data.length c) hk
 have AY:=uQ hkk;have oZ:=uQ hat
 have hks:(aA x.key).toArray.size=32:=by simp [aA,hk]
 have gJ:=uQ hks
 have HA:=uQ hA.drop
 clear hkk hat hks hA
 generalize hL:x.data.length=L at *
 have HL:=uQ hL;clear hL
 by_cases t2:x.tag=2
 ·rw [t2]at c0
  by_cases hz:x.key=aj.zero32
  ·have hzd:decide (x.key=aj.zero32)=true:=aiu hz
   have Hz:=uQ hz
   clear hz
   by_cases h0:0<L
   ·have Hf:=uQ (show aj.check x=4 by unfold aj.check;simp [t2,Hz.out,HL.out,h0])
    have h0i:(0:Int)<(L:Int):=by omega
    go_enter Tryz.func161,Tryz.ntmps161
    go_wp2_with (refine Ox (P:=Tryz.prog) ah 31 _ ah _ 1 ah _ _ (aA x.key).toArray (0,0) _ oZ.out AY.out Tryz.underlying31 ah (by rw [gJ.out];kernel_rfl) ?_)
    go_ret
    exact ⟨errno 4,rfl,by rw [Hf.out],HA.out⟩
   ·obtain rfl:L=0:=by omega
    have Hf:=uQ (show aj.check x=0 by unfold aj.check;simp [t2,Hz.out,HL.out])
    go_enter Tryz.func161,Tryz.ntmps161
    go_wp2_with (refine Ox (P:=Tryz.prog) ah 31 _ ah _ 1 ah _ _ (aA x.key).toArray (0,0) _ oZ.out AY.out Tryz.underlying31 ah (by rw [gJ.out];kernel_rfl) ?_)
    go_ret
    exact ⟨errno 0,rfl,by rw [Hf.out],HA.out⟩
  ·have hzd:decide (x.key=aj.zero32)=false:=aex hz
   have Hf:=uQ (show aj.check x=4 by unfold aj.check;simp [t2,hz])
   clear hz
   go_enter Tryz.func161,Tryz.ntmps161
   go_wp2_with (refine Ox (P:=Tryz.prog) ah 31 _ ah _ 1 ah _ _ (aA x.key).toArray (0,0) _ oZ.out AY.out Tryz.underlying31 ah (by rw [gJ.out];kernel_rfl) ?_)
   go_ret
   exact ⟨errno 4,rfl,by rw [Hf.out],HA.out⟩
 ·have t2b:(x.tag==2)=false:=by simpa using t2
  clear hnk
  by_cases t0:x.tag=0
  ·rw [t0]at c0
   by_cases hb:16384<L
   ·have Hf:=uQ (show aj.check x=5 by unfold aj.check;simp [t0,HL.out,hb])
    have hbi:(16384:Int)<(L:Int):=by omega
    go_enter Tryz.func161,Tryz.ntmps161
    go_wp2
    go_ret
    exact ⟨errno 5,rfl,by rw [Hf.out],HA.out⟩
   ·have Hf:=uQ (show aj.check x=0 by unfold aj.check;simp [t0,HL.out,hb])
    have hbi:¬ (16384:Int)<(L:Int):=by omega
    go_enter Tryz.func161,Tryz.ntmps161
    go_wp2
    go_ret
    exact ⟨errno 0,rfl,by rw [Hf.out],HA.out⟩
  ·have t0b:(x.tag==0)=false:=by simpa using t0
   by_cases t1:x.tag=1
   ·rw [t1]at c0
    by_cases h0:0<L
    ·have Hf:=uQ (show aj.check x=4 by unfold aj.check;simp [t1,HL.out,h0])
     have h0i:(0:Int)<(L:Int):=by omega
     go_enter Tryz.func161,Tryz.ntmps161
     go_wp2
     go_ret
     exact ⟨errno 4,rfl,by rw [Hf.out],HA.out⟩
    ·obtain rfl:L=0:=by omega
     have Hf:=uQ (show aj.check x=0 by unfold aj.check;simp [t1,HL.out])
     go_enter Tryz.func161,Tryz.ntmps161
     go_wp2
     go_ret
     exact ⟨errno 0,rfl,by rw [Hf.out],HA.out⟩
   ·have t1b:(x.tag==1)=false:=by simpa using t1
    have Hf:=uQ (show aj.check x=4 by unfold aj.check;simp [t0,t1,t2])
    clear t0 t1 t2
    generalize x.tag=T at *
    go_enter Tryz.func161,Tryz.ntmps161
    go_wp2
    go_ret
    exact ⟨errno 4,rfl,by rw [Hf.out],HA.out⟩
end
section
variable {w0 w:World}{F:List aG}{v bv dv:Value}{q:Nat}
theorem UZ (l c:Nat) (h1:l≤c) (h2:c≤1099511627776) (w:World) :
  (Instr.makeSlice 36 (.int .i64 l) (.int .i64 c)).run Tryz.prog w = .ok (.slice (some ⟨w.heap.size,0,none⟩) l c) (w.alloc (.cells (madeCells #[.int .u8 0] c) 5)):=by
 obtain ⟨i,hi,hz0,hz1,hz2⟩:=rX
 have:=run_make (P:=Tryz.prog) w 36 5 i _ Tryz.underlying36 hi hz0 .i64 .i64 (l:Int) (c:Int) oQ oQ (by rw [hz2];omega) oQ
 simp only [alf,hz1,aiw]at this
 exact this
theorem UW {l c:Nat} (h1:l≤c) (h2:c≤1099511627776) (h:Sat w0 w (pt q (.cells (madeCells #[.int .u8 0] c) 5 (0,0))::F)):Sat w0 w (bJ (.slice (some ⟨q,0,none⟩) l c) (List.replicate l 0)::F):=by
 refine Sat.kC h (by rw [aV,ajI,aiw]) h1 (by rw [size_madeCells,aiw];exact acy _) (by unfold maxLen;omega) ?_
 rw [toList_madeCells_one,aiw,List.take_replicate,alh h1]
 unfold aA
 rw [List.map_replicate];rfl
section
variable {ops:Array Oper}{rest:List Oper}{o:Oper}{a:Act}{Q:Exit→Act→World→Prop}{sv:Value}
theorem Yj (hgd:o.guard=none) (d s:Operand)
  (ho:o.op = .call { callee:= .builtin .copy,args:=#[d,s],argTypes:=#[36,36] }) (g n c:Nat) (hd:a.eval d = .slice (some ⟨g,0,none⟩) n c) (hs:a.eval s=sv)
  {l x:Bs} (h:Sat w0 w (bJ (.slice (some ⟨g,0,none⟩) n c) l::F)) (hx:bg 1 sv (aA x) w) (h0:x≠[]) (hl:x.length≤l.length)
  (hK:∀ w',Sat w0 w' (bJ (.slice (some ⟨g,0,none⟩) n c) (x++l.drop x.length)::F)→wpList Tryz.prog ops Q rest (a.put o.dst (goInt x.length)) w'):wpList Tryz.prog ops Q (o::rest) a w:=by
 obtain ⟨i,hi,hz0,hz1,hz2⟩:=rX
 obtain ⟨sa,sn,sc,rfl,hsl,hcell⟩:=hx
 rw [aV,aiw]at hsl
 obtain ⟨ad,rfl⟩:∃ ad,sa=some ad:=by
  cases x with
  |nil=>exact absurd rfl h0
  |cons b x=>obtain ⟨ad,h1,_⟩:=hcell 0 _ rfl;exact ⟨ad,h1⟩
 rcases Sat.jQ h with ⟨he,_⟩|⟨g',n',c',cs,he,e1,e2,e3,e4,e5,hp⟩
 ·cases he
 ·cases he
  rw [aV,aiw]at e1
  rw [aiw]at e3 e5
  have hsz:(Tryz.prog.info? 5).map (·.size)=some 1:=by rw [hi];simp [hz1]
  refine wpList_copy_own hgd d s _ _ ho 5 Tryz.underlying36 hsz g 0 n c ad sn sc hd hs cs 5 hp.at (aA x) (by rw [aV];show _=min sn n;omega) (fun j v hj=>by obtain ⟨b,hb,hc⟩:=hcell j v hj;cases hb;exact hc) (by rw [aV];omega) (tX _) ?_
  rw [aV]
  refine hK _ ?_
  have h1:=hp.turn (w':=w.setRow g (cs.toList.take 0++(aA x++cs.toList.drop (0+x.length))).toArray) rfl rfl rfl (by simp) (setRow_heap w g cs _ _ _ hp.at) (fun j hj _=>setRow_other w g j _ hj)
  refine Sat.kC h1 ?_ e2 ?_ e4 ?_
  ·rw [aV,aal,adU,aiw];omega
  ·simp only [ajD,ajd,aaI,aal,adU,aV,adu];omega
  ·simp only [ajD,ajd,aen,aiw]
   unfold aA at e5 ⊢
   rw [aey,List.map_drop,← e5,List.take_append,aaJ,aeb (by simp;omega),List.drop_take]
end
set_option maxRecDepth 20000 in
theorem acp (x:aj.aP) (hk:x.key.length=32) (a:Option Addr) (c:Nat) (h:Sat w0 w F) (hL:x.data.length≤1099511627776) :
  Calls Tryz.prog 162 #[.agg (dG x (.slice a x.data.length c))] w (aO fun v w'=>v = .int .i64 (aj.size x:Nat)∧Sat w0 w' F):=by
 have hA:=h.alloc (.cells (dG x (.slice a x.data.length c)) 78)
 have hch:=Qs x hk a c hA
 have hat:=hA.at
 have hsz:=dW x (.slice a x.data.length c) hk
 have oZ:=uQ hat;have gq:=uQ hsz;have Hk:=uQ hk;have HL:=uQ hL
 clear hat hsz hk hA hL
 go_enter Tryz.func162,Tryz.ntmps162
 go_wp2_with (refine wpList_load_row (P:=Tryz.prog) ah 78 _ ah _ ah _ _ (0,0) _ oZ.out Tryz.underlying78 ah (by rw [gq.out];kernel_rfl) ?_)
 refine hch.mono ?_
 rintro e w1 ⟨v,rfl,rfl,hS1⟩
 have c0:=hS1.cellAt 0 _ (xX x _)
 have xP:=hS1.cellAt 33 _ (BF x _ Hk.out)
 clear hch
 by_cases hc:aj.check x=0
 ·by_cases ht:x.tag=2
  ·have Hf:=uQ (show aj.size x=9 by unfold aj.size;simp [hc,ht])
   rw [hc]
   rw [ht]at c0
   go_wp2
   go_ret
   exact ⟨.int .i64 9,rfl,by rw [Hf.out];rfl,hS1.drop⟩
  ·have Hf:=uQ (show aj.size x=41+x.data.length by unfold aj.size;simp [hc,ht])
   have htb:(x.tag==2)=false:=by simpa using ht
   have hwr:IntKind.i64.wrap (41+(x.data.length:Int))=41+(x.data.length:Int):=acI _ (by have:=HL.out;omega)
   rw [hc]
   clear ht
   generalize x.tag=T at *
   go_wp2
   go_ret
   exact ⟨.int .i64 (41+(x.data.length:Int)),rfl,by rw [Hf.out];rfl,hS1.drop⟩
 ·have Hf:=uQ (show aj.size x=0 by unfold aj.size;simp [hc])
  have hcb:(aj.check x==0)=false:=by simpa using hc
  clear hc
  generalize aj.check x=E at *
  go_wp2
  go_ret
  exact ⟨.int .i64 0,rfl,by rw [Hf.out];rfl,hS1.drop⟩
end
section
variable {w0 w:World}{F:List aG}{v bv dv x:Value}{q:Nat}
section
variable {ops:Array Oper}{rest:List Oper}{o:Oper}{a:Act}{Q:Exit→Act→World→Prop}
theorem yS (hgd:o.guard=none) (s y:Operand) (ho:o.op = .call { callee:= .builtin .append,args:=#[s,y],argTypes:=#[36,36] })
  (hv:a.eval s=v) (hxv:a.eval y=x) {l m:Bs} (h:Sat w0 w (bJ v l::F)) (hx:bg 1 x (aA m) w) (hlen:l.length+m.length≤1099511627776) (hne:l++m≠[])
  (hK:∀ b n c w',Sat w0 w' (bJ (.slice (some ⟨b,0,none⟩) n c) (l++m)::F)→n=(l++m).length→n≤c→c≤9223372036854775807→wpList Tryz.prog ops Q rest (a.put o.dst (.slice (some ⟨b,0,none⟩) n c)) w'):wpList Tryz.prog ops Q (o::rest) a w:=by
 obtain ⟨i,hi,hz0,hz1,hz2⟩:=rX
 have h63:(aA l).length+(aA m).length≤maxLen:=by rw [aV,aV];unfold maxLen;omega
 have hby:((aA l).length+(aA m).length) * i.bytes≤140737488355328:=by rw [aV,aV,hz2];omega
 refine wW (w0:=w0) hgd s y 36 ho _ i _ Tryz.underlying36 hi hz0 hz1 ah oQ hv hxv (tX _) h hx h63 hby ?_
 intro v' w' hS hn
 obtain ⟨b,n,c,rfl⟩:=hn (by rw [← xO];intro e;apply hne;simpa [aA] using e)
 rw [← xO]at hS
 obtain ⟨a',n',c',he,h1,h2,h3⟩:=zo hS
 cases he
 exact hK b n c w' hS h3 h1 h2
end
theorem ae9 (t:Int) (h:t=0∨t=1∨t=2):IntKind.u8.wrap t=((UInt8.ofNat t.toNat).toNat:Int):=by
 rcases h with rfl|rfl|rfl <;> decide
theorem adY (e:aj.aP) (hk:e.key.length=32) (dv:Value) (h:Sat w0 w (pt q (.cells (dG e dv) 78 (0,0))::F)):bg 1 (.slice (some ⟨q,1,none⟩) 32 32) (aA e.key) w:=by
 refine ⟨_,32,32,rfl,by rw [aV,hk],fun i y hi=>⟨_,rfl,?_⟩⟩
 have e1:(⟨q,1,none⟩:Addr).add i=⟨q,1+i,none⟩:=by unfold Addr.add;split <;> simp_all
 rw [e1]
 exact h.cellAt _ _ (Q8 e dv hk i y (by simpa using hi))
set_option maxRecDepth 20000 in
theorem abB (e:aj.aP) (hk:e.key.length=32) (da:Option Addr) (dc:Nat) (hd:Ro w0 F (bg 1 (.slice da e.data.length dc) (aA e.data))) (hH:Ro w0 F Half) (h:Sat w0 w F) (hL:e.data.length≤1099511627) :
  Calls Tryz.prog 108 #[.agg (dG e (.slice da e.data.length dc))] w (aO fun v w'=>∃ bv,v = .tuple #[bv,errno (aj.encode e).2]∧(∃ a n c,bv = .slice a n c)∧Sat w0 w' (bJ bv (aj.encode e).1::F)):=by
 have hA:=h.alloc (.cells (dG e (.slice da e.data.length dc)) 78)
 have hch:=Qs e hk da dc hA
 have hat:=hA.at
 have hsz:=dW e (.slice da e.data.length dc) hk
 have oZ:=uQ hat;have gq:=uQ hsz;have Hk:=uQ hk;have HL:=uQ hL;have Hd:=uQ hd;have HH:=uQ hH
 clear hat hsz hk hA hL hd hH
 go_enter Tryz.func108,Tryz.ntmps108
 go_wp2_with (refine wpList_load_row (P:=Tryz.prog) ah 78 _ ah _ ah _ _ (0,0) _ oZ.out Tryz.underlying78 ah (by rw [gq.out];kernel_rfl) ?_)
 refine hch.mono ?_
 rintro ee w1 ⟨v,rfl,rfl,hS1⟩
 clear hch
 generalize w.heap.size=q at *
 by_cases hc:aj.check e=0
 ·have Ti:=uQ hS1.at
  have hsc:=acp e Hk.out da dc hS1 (by have:=HL.out;omega)
  have Hc:=uQ hc
  have htag:e.tag=0∨e.tag=1∨e.tag=2:=by
   unfold aj.check at hc
   by_cases t0:e.tag=0
   ·exact .inl t0
   by_cases t2:e.tag=2
   ·exact .inr (.inr t2)
   by_cases t1:e.tag=1
   ·exact .inr (.inl t1)
   simp [t0,t1,t2]at hc
  have Zv:=uQ htag
  rw [hc]
  clear hc htag
  go_wp2_with (refine wpList_load_row (P:=Tryz.prog) ah 78 _ ah _ ah _ _ (0,0) _ Ti.out Tryz.underlying78 ah (by rw [gq.out];kernel_rfl) ?_)
  refine hsc.mono ?_
  rintro ee w2 ⟨v,rfl,rfl,hS2⟩
  clear hsc Ti oZ
  have TM:9≤aj.size e∧aj.size e≤41+e.data.length:=by
   unfold aj.size
   rw [abw (by rw [Hc.out];simp)]
   split <;> omega
  have hN:=uQ TM
  have hmk:=UZ 4 (aj.size e) oQ (by have:=HL.out;omega)
  have hcast:((4:Nat):Int)=4:=rfl
  rw [hcast]at hmk
  have hA2:=(hS2.alloc (.cells (madeCells #[.int .u8 0] (aj.size e)) 5))
  have hB:=UW (l:=4) oQ (by have:=HL.out;omega) hA2
  have hput:=zW (aj.size e) (by have:=HL.out;omega) hB
  have hwu:IntKind.u64.wrap (aj.size e:Int)=(aj.size e:Int):=by
   rw [show ∀ n:Int,IntKind.u64.wrap n=n%18446744073709551616 from fun n=>by simp [IntKind.wrap,IntKind.bits,IntKind.signed]]
   have:=HL.out;omega
  clear hcast TM hA2
  go_wp2_with fail
  refine hput.mono ?_
  rintro ee w3 ⟨v,rfl,hS3,pa,rfl⟩
  clear hput hwu hB hmk
  generalize w2.heap.size=q2 at *
  have c0:=(hS3.sel 3 [2] rfl rfl).cellAt 0 _ (xX e _)
  have hr1:bg 1 (.slice pa 4 4) (aA (aj.le (aj.size e) 4)) w3:=Sat.rd hS3
  have hl4:=aj.iH (aj.size e) 4
  obtain ⟨tb,htb⟩:∃ tb,tb=UInt8.ofNat e.tag.toNat:=⟨_,rfl⟩
  have Ug:e.tag%256=(tb.toNat:Int):=by
   rw [htb,← ae9 _ Zv.out]
   exact (IntKind.wrap_u8' _).symm
  have Jz:=uQ htb
  clear htb
  have hd3:=Hd.out
  have Cb:=uQ (show (List.replicate 4 (0:UInt8)++aj.le (aj.size e) 4).length=8 by rw [aal,hl4,ajI])
  have O5:=uQ hl4
  clear hl4
  by_cases ht2:e.tag=2
  ·have pX:=uQ ht2
   rw [ht2]at c0
   have Uf:tb=2:=by rw [Jz.out,ht2];rfl
   have Zw:=uQ Uf
   clear Ug Uf
   go_wp2_with (first
    |(at_builtin;refine yS (w0:=w0) (l:=List.replicate 4 0) (m:=aj.le (aj.size e) 4) ah _ _ ah ah ah (hS3.sel 3 [1,2] rfl rfl) hr1 (by rw [O5.out,ajI];omega) (by simp) ?_;intro b4 n4 k4 w4 hS4 hx1 hx2 hx3;clear hx1 hx2 hx3 hr1 c0 hS3;have c0:=hS4.aZ.cellAt 0 _ (xX e _);rw [pX.out]at c0;have hB4:=hS4.alloc (.cells #[.int .u8 2] 5);have hr4:bg 1 (.slice (some ⟨w4.heap.size,0,none⟩) 1 1) (aA [2]) (w4.alloc (.cells #[.int .u8 2] 5)):=yH w4 #[.int .u8 2] 5 1 1 1 rfl)
    |(at_builtin;refine yS (w0:=w0) (l:=List.replicate 4 0++aj.le (aj.size e) 4) (m:=[2]) ah _ _ ah ah ah hB4.aZ hr4 (by rw [Cb.out];simp) (by simp) ?_;intro b5 n5 k5 w5 hS5 hx1 hx2 hx3;clear hx1 hx2 hx3 hr4 hB4 hS4 c0;have c0:=hS5.fG.cellAt 0 _ (xX e _);rw [pX.out]at c0;have xP:=hS5.fG.cellAt 33 _ (BF e _ Hk.out);have yB:=Hd.out w5 (hS5.sel 3 [] rfl rfl))
    |(at_builtin;refine yS (w0:=w0) (l:=List.replicate 4 0++aj.le (aj.size e) 4++[2]) (m:=e.data) ah _ _ ah ah ah hS5 yB (by rw [aal,Cb.out];have:=HL.out;simp;omega) (by simp) ?_;intro b7 n7 k7 w7 hS7 uj yA hk7;have hn4:4≤n7:=(by rw [uj];simp only [aal,ajI];omega);have hk4:¬ k7=4:=(by rw [uj]at yA;simp only [aal,ajI,aja]at yA;omega);have ada:(4:Int)≤(n7:Int):=oQ;have Bc:=uQ uj;clear uj yB hS5 xP c0))
   have hbody:List.replicate 4 0++aj.le (aj.size e) 4++[2]++e.data=List.replicate 4 0++aj.body e:=by
    unfold aj.body
    rw [ac3 pX.out,← Jz.out,Zw.out]
    simp only [adR,ajd]
   obtain ⟨XX,KI,Iz,Cc⟩:∃ XX:List aG,(∀ w' A,Sat w0 w' (A::XX)→Sat w0 w' (A::F))∧Ro w0 (bJ (.slice (some ⟨b7,0,none⟩) n7 k7) (List.replicate 4 0++aj.body e)::XX) Half∧Sat w0 w7 (bJ (.slice (some ⟨b7,0,none⟩) n7 k7) (List.replicate 4 0++aj.le (aj.size e) 4++[2]++e.data)::XX):=
    ⟨_::_::F,fun w' A hw=>hw.sel 3 [0] rfl rfl,Ro.more (L:=[_,_,_]) HH.out,hS7⟩
   clear hS7
   have hS7:=Cc
   clear Cc
   rw [hbody]at hS7 Bc
   have hbl:(aj.body e).length≤1099511627776:=by
    have h1:=HL.out;have h2:=Hk.out
    unfold aj.body
    simp only [aal,aj.iH,aja,ajn]
    split <;> simp <;> omega
   have KR:n7=4+(aj.body e).length:=by rw [Bc.out,aal,ajI]
   have hrb:∀ w',Sat w0 w' (bJ (.slice (some ⟨b7,0,none⟩) n7 k7) (List.replicate 4 0++aj.body e)::XX)→bg 1 (.slice (some ⟨b7,4,none⟩) (n7 - 4) (k7 - 4)) (aA (aj.body e)) w':=by
    intro w' hw'
    have h1:=MV (lo:=4) (k:=n7 - 4) (Sat.rd hw') oQ (some ⟨b7,4,none⟩) (by rw [abw hk4];simp [o9]) yA (k7 - 4)
    have h2:((aA (List.replicate 4 0++aj.body e)).drop 4).take (n7 - 4)=aA (aj.body e):=by
     rw [xO,aku (by simp [aA])]
     have:(aA (List.replicate 4 0)).drop 4=[]:=by simp [aA]
     rw [this,ajd,aeb (by rw [aV];omega)]
    rw [h2]at h1
    exact h1
   have yj:=J5 (F:=bJ (.slice (some ⟨b7,0,none⟩) n7 k7) (List.replicate 4 0++aj.body e)::XX) (aj.body e) Iz hrb hS7 hbl
   have oh:=uQ hbl
   clear hrb hbl KR
   go_wp2_with fail
   refine yj.mono ?_
   rintro ee w8 ⟨v,rfl,rfl,rfl⟩
   clear yj
   have KL:=aj.J6 (aj.body e)
   have CO:=zW (aj.crc (aj.body e)) oQ hS7
   have hwc:IntKind.u64.wrap (aj.crc (aj.body e):Int)=(aj.crc (aj.body e):Int):=by
    rw [show ∀ n:Int,IntKind.u64.wrap n=n%18446744073709551616 from fun n=>by simp [IntKind.wrap,IntKind.bits,IntKind.signed]]
    omega
   have La:(aj.crc (aj.body e):Int)%18446744073709551616=(aj.crc (aj.body e):Int):=by omega
   clear KL
   go_wp2_with fail
   refine CO.mono ?_
   rintro ee w9 ⟨v,rfl,iG,pb,rfl⟩
   clear CO hwc La
   have KY:bg 1 (.slice pb 4 4) (aA (aj.le (aj.crc (aj.body e)) 4)) w9:=Sat.rd iG
   go_wp2_with (refine Yj (w0:=w0) (x:=aj.le (aj.crc (aj.body e)) 4) ah _ _ ah b7 n7 k7 ah ah iG.aZ KY (by intro e0;have:=aj.iH (aj.crc (aj.body e)) 4;rw [e0]at this;cases this) (by rw [aj.iH,aal,ajI];omega) ?_;intro w10 dw)
   go_ret2
   have hfin:aj.encode e=(aj.le (aj.crc (aj.body e)) 4++aj.body e,0):=by unfold aj.encode;rw [abw (by rw [Hc.out];simp)]
   rw [hfin]
   refine ⟨_,rfl,_,rfl,⟨_,_,_,rfl⟩,?_⟩
   have hdr:(List.replicate 4 (0:UInt8)++aj.body e).drop (aj.le (aj.crc (aj.body e)) 4).length=aj.body e:=by
    rw [aj.iH,aku (by simp)];simp
   rw [hdr]at dw
   exact KI _ _ (dw.sel 2 [0] rfl rfl)
  ·have ht2b:(e.tag==2)=false:=by simpa using ht2
   have pX:=uQ ht2
   clear ht2
   go_wp2_with (first
    |(at_builtin;refine yS (w0:=w0) (l:=List.replicate 4 0) (m:=aj.le (aj.size e) 4) ah _ _ ah ah ah (hS3.sel 3 [1,2] rfl rfl) hr1 (by rw [O5.out,ajI];omega) (by simp) ?_;intro b4 n4 k4 w4 hS4 hx1 hx2 hx3;clear hx1 hx2 hx3 hr1 c0 hS3;have c0:=hS4.aZ.cellAt 0 _ (xX e _);have hB4:=hS4.alloc (.cells #[.int .u8 tb.toNat] 5);have hr4:bg 1 (.slice (some ⟨w4.heap.size,0,none⟩) 1 1) (aA [tb]) (w4.alloc (.cells #[.int .u8 tb.toNat] 5)):=yH w4 #[.int .u8 tb.toNat] 5 1 1 1 rfl)
    |(at_builtin;refine yS (w0:=w0) (l:=List.replicate 4 0++aj.le (aj.size e) 4) (m:=[tb]) ah _ _ ah ah ah hB4.aZ hr4 (by rw [Cb.out];simp) (by simp) ?_;intro b5 n5 k5 w5 hS5 hx1 hx2 hx3;clear hx1 hx2 hx3 hr4 hB4 hS4 c0;have c0:=hS5.fG.cellAt 0 _ (xX e _);have xP:=hS5.fG.cellAt 33 _ (BF e _ Hk.out);have Ub:=adY e Hk.out _ hS5.fG)
    |(at_builtin;refine yS (w0:=w0) (l:=List.replicate 4 0++aj.le (aj.size e) 4++[tb]) (m:=e.key) ah _ _ ah ah ah hS5 Ub (by rw [aal,Cb.out,Hk.out];simp) (by simp) ?_;intro b6 n6 k6 w6 hS6 hx1 hx2 hx3;clear hx1 hx2 hx3 Ub hS5 c0 xP;have xP:=hS6.fG.cellAt 33 _ (BF e _ Hk.out);have yB:=Hd.out w6 (hS6.sel 3 [] rfl rfl))
    |(at_builtin;refine yS (w0:=w0) (l:=List.replicate 4 0++aj.le (aj.size e) 4++[tb]++e.key) (m:=e.data) ah _ _ ah ah ah hS6 yB (by rw [aal,aal,Cb.out,Hk.out];have:=HL.out;simp;omega) (by simp) ?_;intro b7 n7 k7 w7 hS7 uj yA hk7;have hn4:4≤n7:=(by rw [uj];simp only [aal,ajI];omega);have hk4:¬ k7=4:=(by rw [uj]at yA;simp only [aal,ajI,aja]at yA;omega);have ada:(4:Int)≤(n7:Int):=oQ;have Bc:=uQ uj;clear uj yB hS6 xP))
   have hbody:List.replicate 4 0++aj.le (aj.size e) 4++[tb]++e.key++e.data=List.replicate 4 0++aj.body e:=by
    unfold aj.body
    rw [abw pX.out,Jz.out]
    simp only [adR]
   obtain ⟨XX,KI,Iz,Cc⟩:∃ XX:List aG,(∀ w' A,Sat w0 w' (A::XX)→Sat w0 w' (A::F))∧Ro w0 (bJ (.slice (some ⟨b7,0,none⟩) n7 k7) (List.replicate 4 0++aj.body e)::XX) Half∧Sat w0 w7 (bJ (.slice (some ⟨b7,0,none⟩) n7 k7) (List.replicate 4 0++aj.le (aj.size e) 4++[tb]++e.key++e.data)::XX):=
    ⟨_::_::F,fun w' A hw=>hw.sel 3 [0] rfl rfl,Ro.more (L:=[_,_,_]) HH.out,hS7⟩
   clear hS7
   have hS7:=Cc
   clear Cc
   rw [hbody]at hS7 Bc
   have hbl:(aj.body e).length≤1099511627776:=by
    have h1:=HL.out;have h2:=Hk.out
    unfold aj.body
    simp only [aal,aj.iH,aja,ajn]
    split <;> simp <;> omega
   have KR:n7=4+(aj.body e).length:=by rw [Bc.out,aal,ajI]
   have hrb:∀ w',Sat w0 w' (bJ (.slice (some ⟨b7,0,none⟩) n7 k7) (List.replicate 4 0++aj.body e)::XX)→bg 1 (.slice (some ⟨b7,4,none⟩) (n7 - 4) (k7 - 4)) (aA (aj.body e)) w':=by
    intro w' hw'
    have h1:=MV (lo:=4) (k:=n7 - 4) (Sat.rd hw') oQ (some ⟨b7,4,none⟩) (by rw [abw hk4];simp [o9]) yA (k7 - 4)
    have h2:((aA (List.replicate 4 0++aj.body e)).drop 4).take (n7 - 4)=aA (aj.body e):=by
     rw [xO,aku (by simp [aA])]
     have:(aA (List.replicate 4 0)).drop 4=[]:=by simp [aA]
     rw [this,ajd,aeb (by rw [aV];omega)]
    rw [h2]at h1
    exact h1
   have yj:=J5 (F:=bJ (.slice (some ⟨b7,0,none⟩) n7 k7) (List.replicate 4 0++aj.body e)::XX) (aj.body e) Iz hrb hS7 hbl
   have oh:=uQ hbl
   clear hrb hbl KR
   go_wp2_with fail
   refine yj.mono ?_
   rintro ee w8 ⟨v,rfl,rfl,rfl⟩
   clear yj
   have KL:=aj.J6 (aj.body e)
   have CO:=zW (aj.crc (aj.body e)) oQ hS7
   have hwc:IntKind.u64.wrap (aj.crc (aj.body e):Int)=(aj.crc (aj.body e):Int):=by
    rw [show ∀ n:Int,IntKind.u64.wrap n=n%18446744073709551616 from fun n=>by simp [IntKind.wrap,IntKind.bits,IntKind.signed]]
    omega
   have La:(aj.crc (aj.body e):Int)%18446744073709551616=(aj.crc (aj.body e):Int):=by omega
   clear KL
   go_wp2_with fail
   refine CO.mono ?_
   rintro ee w9 ⟨v,rfl,iG,pb,rfl⟩
   clear CO hwc La
   have KY:bg 1 (.slice pb 4 4) (aA (aj.le (aj.crc (aj.body e)) 4)) w9:=Sat.rd iG
   go_wp2_with (refine Yj (w0:=w0) (x:=aj.le (aj.crc (aj.body e)) 4) ah _ _ ah b7 n7 k7 ah ah iG.aZ KY (by intro e0;have:=aj.iH (aj.crc (aj.body e)) 4;rw [e0]at this;cases this) (by rw [aj.iH,aal,ajI];omega) ?_;intro w10 dw)
   go_ret2
   have hfin:aj.encode e=(aj.le (aj.crc (aj.body e)) 4++aj.body e,0):=by unfold aj.encode;rw [abw (by rw [Hc.out];simp)]
   rw [hfin]
   refine ⟨_,rfl,_,rfl,⟨_,_,_,rfl⟩,?_⟩
   have hdr:(List.replicate 4 (0:UInt8)++aj.body e).drop (aj.le (aj.crc (aj.body e)) 4).length=aj.body e:=by
    rw [aj.iH,aku (by simp)];simp
   rw [hdr]at dw
   exact KI _ _ (dw.sel 2 [0] rfl rfl)
 ·have Hf:=uQ (show aj.encode e=([],aj.check e) by unfold aj.encode;rw [ac3 hc])
  have hcb:(aj.check e==0)=false:=by simpa using hc
  clear hc
  generalize aj.check e=E at *
  go_wp2
  go_ret2
  rw [Hf.out]
  exact ⟨_,rfl,.slice none 0 0,rfl,⟨_,_,_,rfl⟩,Sat.fD.2 hS1.drop⟩
end
end Go.Proofs.YtiglchkhikciiaaGreatDoor
namespace Go.Seg
abbrev Bs:=List UInt8
def gK (n:Nat):Nat→Bs
 |0=>[]
 |k+1=>gK (n / 10) k++[UInt8.ofNat (48+n%10)]
def lead:Bs:=[115,101,103,46]
def name (n:Int):ByteArray:=if n<0∨1048576≤n then ByteArray.empty else ⟨(lead++gK n.toNat 8).toArray⟩
theorem QL:∀ k,gK 0 k=List.replicate k 48
 |0=>rfl
 |k+1=>by
  show gK (0 / 10) k++[UInt8.ofNat (48+0%10)]=_
  rw [Nat.zero_div,QL k,List.replicate_succ',show UInt8.ofNat (48+0%10)=48 from rfl]
theorem vH (n k:Nat):(gK n k).length=k:=by
 induction k generalizing n with
 |zero=>rfl
 |succ k ih=>simp [gK,ih]
def lu (c:UInt8):Bool:=decide (48≤c.toNat) && decide (c.toNat≤57)
def val (b:Bs):Nat:=b.foldl (fun n c=>10 * n+(c.toNat - 48)) 0
theorem Ij (b:Bs) (c:UInt8):val (b++[c])=10 * val b+(c.toNat - 48):=by unfold val;rw [ak1];rfl
theorem ais (k:Nat):∀ n,n<10^k→val (gK n k)=n:=by
 induction k with
 |zero=>intro n h;simp at h;subst h;rfl
 |succ k ih=>
  intro n h
  show val (gK (n / 10) k++[UInt8.ofNat (48+n%10)])=n
  rw [Ij,ih (n / 10) (by rw [Nat.div_lt_iff_lt_mul oQ];rw [alA]at h;exact h),akH]
  omega
theorem J8 (k:Nat):∀ n,(gK n k).all lu=true:=by
 induction k with
 |zero=>intro n;rfl
 |succ k ih=>
  intro n
  show (gK (n / 10) k++[UInt8.ofNat (48+n%10)]).all lu=true
  rw [ajZ,ih,Bool.true_and]
  simp only [alE,List.all_nil,Bool.and_true,lu,akH]
  rw [ajc,adN,adN]
  omega
theorem abg (b:Bs) (h:b.all lu=true):gK (val b) b.length=b:=by
 rw [← List.reverse_reverse b]at *
 generalize b.reverse=r at *
 induction r with
 |nil=>rfl
 |cons c r ih=>
  rw [List.reverse_cons]at h ⊢
  rw [ajZ,ajc]at h
  have hc:lu c=true:=by simpa using h.2
  unfold lu at hc
  rw [ajc,adN,adN]at hc
  rw [Ij,aal,adX]
  show gK ((10 * val r.reverse+(c.toNat - 48)) / 10) r.reverse.length++[UInt8.ofNat (48+(10 * val r.reverse+(c.toNat - 48))%10)]=_
  have e1:(10 * val r.reverse+(c.toNat - 48)) / 10=val r.reverse:=by omega
  have e2:48+(10 * val r.reverse+(c.toNat - 48))%10=c.toNat:=by omega
  rw [e1,e2,ih h.1,UInt8.ofNat_toNat]
theorem ait (b:Bs) (h:b.all lu=true):val b<10^b.length:=by
 rw [← List.reverse_reverse b]at *
 generalize b.reverse=r at *
 induction r with
 |nil=>simp [val]
 |cons c r ih=>
  rw [List.reverse_cons]at h ⊢
  rw [ajZ,ajc]at h
  have hc:lu c=true:=by simpa using h.2
  unfold lu at hc
  rw [ajc,adN,adN]at hc
  rw [Ij,aal,adX,alA]
  have:=ih h.1
  omega
def number (s:ByteArray):Int×Bool:=
 let l:=s.data.toList
 if l.length=12∧l.take 4=lead∧(l.drop 4).all lu=true∧val (l.drop 4)<1048576 then (val (l.drop 4),true) else (0,false)
end Go.Seg
namespace Go.Proofs.YtiglchkhikciiaaGreatDoor
open Go Go.Sl Go.ay Go.MapKept Go.RowKit
section
variable {w0 w:World}{F:List aG}{v bv dv x:Value}{q:Nat}
def mrow (q:Nat) (l:Bs):aG:=pt q (.cells (aA l).toArray 5 (l.length,l.length+1))
theorem FN {l:Bs} (h:Sat w0 w (mrow q l::F)){i:Nat} (hi:i<l.length) (x:UInt8) :
  w.cell? ⟨q,i,none⟩=some (.int .u8 (l[i]'hi).toNat)∧w.frozen? ⟨q,i,none⟩=false∧Sat w0 (w.setCell ⟨q,i,none⟩ (.int .u8 x.toNat)) (mrow q (l.set i x)::F):=by
 have hb:=h.at
 refine ⟨?_,?_,?_⟩
 ·simp only [World.cell?,hb]
  rw [abL]
  unfold aA
  rw [aix,aak hi];rfl
 ·simp only [World.frozen?,hb]
  simp;omega
 ·refine h.turn rfl rfl rfl (by simp) ?_ ?_
  ·simp only [World.setCell,ako,akL,hb]
   simp only [aj7,Option.some.injEq]
   rw [aj0]
   congr 1
   unfold aA
   rw [List.setIfInBounds_toArray,List.map_set,abw (by simp)]
  ·intro j hj _
   simp only [World.setCell,ako]
   rw [abw (Ne.symm hj)]
theorem aeB {l:Bs} (h:Sat w0 w (mrow q l::F)) (c:Nat):(convert 36 9 (.slice (some ⟨q,0,none⟩) l.length c)).run Tryz.prog w = .ok (.string ⟨l.toArray⟩) w:=by
 refine run_convert_bytes_back (P:=Tryz.prog) w _ _ 5 _ c l Tryz.underlying36 Tryz.underlying5 Tryz.underlying9 (fun j hj=>?_)
 rw [o9]
 exact (FN h hj 0).1
set_option maxRecDepth 20000 in
theorem wP (n:Int) (h:Sat w0 w F) :
  Calls Tryz.prog 77 #[.int .i64 n] w (aO fun v w'=>v = .string (Seg.name n)∧Sat w0 w' F):=by
 by_cases h1:n<0
 ·have Hf:=uQ (show Seg.name n=ByteArray.empty by unfold Seg.name;rw [ac3 (.inl h1)])
  go_enter Tryz.func77,Tryz.ntmps77
  go_wp2
  go_ret
  exact ⟨_,rfl,by rw [Hf.out];rfl,h⟩
 have h1d:decide (n<0)=false:=aex h1
 by_cases h2:1048576≤n
 ·have Hf:=uQ (show Seg.name n=ByteArray.empty by unfold Seg.name;rw [ac3 (.inr h2)])
  go_enter Tryz.func77,Tryz.ntmps77
  go_wp2
  go_ret
  exact ⟨_,rfl,by rw [Hf.out];rfl,h⟩
 have BN:decide (1048576≤n)=false:=aex h2
 obtain ⟨m0,rfl⟩:=Int.eq_ofNat_of_zero_le (show 0≤n by omega)
 have Hf:=uQ (show Seg.name (m0:Int)=⟨(Seg.lead++Seg.gK m0 8).toArray⟩ by unfold Seg.name;rw [abw oQ];rfl)
 have hm0:m0<10^8:=by omega
 have Hm:=uQ hm0
 have hcv:=Lib.run_convert_bytes_const (P:=Tryz.prog) w 36 5 #[.int .u8 115,.int .u8 101,.int .u8 103,.int .u8 46,.int .u8 48,.int .u8 48,.int .u8 48,.int .u8 48,.int .u8 48,.int .u8 48,.int .u8 48,.int .u8 48] 12 12 Tryz.underlying36 Tryz.underlying5
 have hB:Sat w0 (w.alloc (.cells #[.int .u8 115,.int .u8 101,.int .u8 103,.int .u8 46,.int .u8 48,.int .u8 48,.int .u8 48,.int .u8 48,.int .u8 48,.int .u8 48,.int .u8 48,.int .u8 48] 5 (12,13))) (mrow w.heap.size (Seg.lead++List.replicate 8 48)::F):=h.alloc _
 simp only [aaI,aja,ajn,aen,Nat.reduceAdd]at hcv
 clear hm0
 go_enter Tryz.func77,Tryz.ntmps77
 go_wp2_with fail
 clear h1 h2 h1d BN
 generalize w.heap.size=q at *
 go_loopg [0,4] 8 (fun g nv iq wr=>∃ (k m:Nat) (tail:Bs),g=k∧k≤8∧nv = .int .i64 m∧iq = .int .i64 ((k:Int)+3)∧m<10^k∧Seg.lead++Seg.gK m0 8=Seg.lead++Seg.gK m k++tail∧tail.length=8 - k ∧
  Sat w0 wr (mrow q (Seg.lead++List.replicate k 48++tail)::F))
 case atStart=>exact ⟨8,m0,[],rfl,acy _,rfl,rfl,Hm.out,by simp,rfl,by simpa using hB⟩
 case round=>
  obtain ⟨k,m,tail,hgk,hk,rfl,rfl,hm,hfin,htl,hS⟩:=hrel
  have ac1:=hgk.symm
  subst ac1
  have bH:=uQ hfin;have pY:=uQ htl
  clear hB hfin htl
  by_cases hp:0<m
  ·obtain ⟨k',rfl⟩:∃ k',k=k'+1:=by
    cases k with
    |zero=>simp at hm;omega
    |succ k'=>exact ⟨k',rfl⟩
   have hlen:(Seg.lead++List.replicate (k'+1) 48++tail).length=12:=by
    have:=pY.out
    simp [Seg.lead];omega
   have hidx:k'+4<(Seg.lead++List.replicate (k'+1) 48++tail).length:=by omega
   obtain ⟨e0,e1,hS5⟩:=FN hS hidx (UInt8.ofNat (48+m%10))
   generalize (Seg.lead++List.replicate (k'+1) 48++tail)[k'+4]'hidx=old at e0
   have hpi:(0:Int)<(m:Int):=by omega
   have hki:(k':Int)+4<12:=by omega
   have hdg:48+(m:Int)%10=((UInt8.ofNat (48+m%10)).toNat:Int):=by rw [akH];omega
   have hm2:m<10 * 10^k':=by rw [alA]at hm;omega
   have hbig:10^(k'+1)≤10^8:=akv aN hk
   have hw1:IntKind.i64.wrap ((m:Int) / 10)=(m:Int) / 10:=by rw [ajt];omega
   have Za:=uQ hm2
   have Y3:=uQ (show Seg.gK m (k'+1)=Seg.gK (m / 10) k'++[UInt8.ofNat (48+m%10)] by rfl)
   have hc3:((k'+1:Nat):Int)+3=(k':Int)+4:=by omega
   rw [hc3]
   clear hm hm2 hlen hidx hbig
   generalize UInt8.ofNat (48+m%10)=dg at *
   go_wp2_with fail
   go_roundg k'
   case rel=>
    refine ⟨k',m / 10,dg::tail,rfl,by omega,?_,?_,?_,?_,?_,?_⟩
    ·congr 1
    ·congr 1;omega
    ·have:=Za.out;omega
    ·rw [bH.out,Y3.out];simp
    ·have:=pY.out;simp;omega
    ·have e:(Seg.lead++List.replicate (k'+1) 48++tail).set (k'+4) dg=Seg.lead++List.replicate k' 48++dg::tail:=by
      have hl:(Seg.lead++List.replicate k' (48:UInt8)).length=k'+4:=by simp only [Seg.lead,aal,ajI,aja,ajn];omega
      rw [List.replicate_succ',← adR,adR (Seg.lead++List.replicate k' 48),List.set_append_right _ _ oQ,hl,akb]
      rfl
     rw [← e];exact hS5
   case measure=>omega
  ·have hm0:m=0:=by omega
   subst hm0
   have htx:=aeB hS 12
   have hlen:(Seg.lead++List.replicate k 48++tail).length=12:=by
    have:=pY.out
    simp [Seg.lead];omega
   rw [hlen]at htx
   clear hm
   go_wp2
   go_ret
   refine ⟨_,rfl,?_,hS.drop⟩
   rw [Hf.out,bH.out,Seg.QL];simp
end
section
variable {w0 w:World}{F:List aG}{v bv dv x:Value}{q:Nat}
theorem JR (s:ByteArray):(s.extract 0 4).toList=s.data.toList.take 4:=by
 rw [Go.Lib.extract_toList];simp
theorem aam (s:ByteArray) (h:s.size=12):(s.extract 4 12).data.toList=s.data.toList.drop 4:=by
 rw [Go.Lib.extract_data]
 refine aeb ?_
 have:s.data.toList.length=12:=by rw [adu];exact h
 rw [adU];omega
set_option maxRecDepth 20000 in
theorem NZ (s:ByteArray) (h:Sat w0 w F) :
  Calls Tryz.prog 90 #[.string s] w (aO fun v w'=>v = .tuple #[.int .i64 (Seg.number s).1,.bool (Seg.number s).2]∧Sat w0 w' F):=by
 by_cases h1:s.size=12
 ·have hs:((s.size:Int)=12):=by omega
  have h1d:decide ((s.size:Int)=12)=true:=aiu hs
  by_cases h2:s.data.toList.take 4=Seg.lead
  ·have BN:((s.extract 0 4).toList==[115,101,103,46])=true:=by rw [JR s,h2];rfl
   have hN:=uQ (show Seg.number s=if (s.data.toList.drop 4).all Seg.lu=true∧Seg.val (s.data.toList.drop 4)<1048576 then ((Seg.val (s.data.toList.drop 4):Int),true) else (0,false) by
    unfold Seg.number
    simp only [adu,show s.data.size=12 from h1,h2,true_and])
   have Hb:=uQ (aam s h1)
   have hcv:=run_bytes_of_string (P:=Tryz.prog) w 9 36 5 (s.extract 4 12) Tryz.underlying9 Tryz.underlying36 Tryz.underlying5
   have hz:(s.extract 4 12).size=8:=by simp [ByteArray.size_extract,h1]
   have hcell:∀ (i:Nat) (hi:i<8),((w.alloc (.cells (bytesRow (s.extract 4 12) (grownCap w (s.extract 4 12).size 0 5)) 5 ((bytesRow (s.extract 4 12) (grownCap w (s.extract 4 12).size 0 5)).size,(bytesRow (s.extract 4 12) (grownCap w (s.extract 4 12).size 0 5)).size+1))).drew).cell? ⟨w.heap.size,0+i,none⟩=some (.int .u8 ((s.extract 4 12).data[i]'(by have:(s.extract 4 12).data.size=8:=hz;omega)).toNat):=by
    intro i hi
    rw [aen]
    exact (World.cell?_alloc_mark w.drew _ _ _ _).trans (bytesRow_at _ _ _ _)
   have hB:Sat w0 ((w.alloc (.cells (bytesRow (s.extract 4 12) (grownCap w (s.extract 4 12).size 0 5)) 5 ((bytesRow (s.extract 4 12) (grownCap w (s.extract 4 12).size 0 5)).size,(bytesRow (s.extract 4 12) (grownCap w (s.extract 4 12).size 0 5)).size+1))).drew) F:=(h.drew.alloc _).drop
   rw [hz]at hcv hcell hB
   have Hlen:=uQ (show (s.data.toList.drop 4).length=8 by rw [adU,adu,show s.data.size=12 from h1])
   have hcell':∀ (i:Nat) (hi:i<(s.data.toList.drop 4).length),((w.alloc (.cells (bytesRow (s.extract 4 12) (grownCap w 8 0 5)) 5 ((bytesRow (s.extract 4 12) (grownCap w 8 0 5)).size,(bytesRow (s.extract 4 12) (grownCap w 8 0 5)).size+1))).drew).cell? ⟨w.heap.size,0+i,none⟩=some (.int .u8 ((s.data.toList.drop 4)[i]'hi).toNat):=by
    intro i hi
    rw [hcell i (by rw [← Hlen.out];exact hi)]
    congr 4
    have:=Hb.out
    rw [← Array.getElem_toList]
    exact getElem_congr this rfl _
   clear hcell
   generalize grownCap w 8 0 5=cap at *
   generalize s.data.toList.drop 4=l at *
   go_enter Tryz.func90,Tryz.ntmps90
   go_wp2_with fail
   clear hcv h1d BN hs h1 h2
   generalize World.drew _=wb at *
   generalize w.heap.size=q at *
   go_loopg [4,19] 8 (fun g nv iq wr=>∃ i:Nat,g=8 - i∧i≤8∧nv = .int .i64 (Seg.val (l.take i))∧iq = .int .i64 i∧(l.take i).all Seg.lu=true∧wr=wb)
   case atStart=>exact ⟨0,rfl,by omega,rfl,rfl,rfl,rfl⟩
   case round=>
    obtain ⟨i,rfl,hi,rfl,rfl,hall,rfl⟩:=hrel
    have sU:=uQ hall
    clear hall
    by_cases hi':i<8
    ·have hil:i<l.length:=by have:=Hlen.out;omega
     have hc:=hcell' i hil
     rw [aen]at hc
     have Hc:=uQ (alo hil)
     have hii:(i:Int)<8:=by omega
     have Hn:=uQ (show Seg.val (l.take (i+1))=10 * Seg.val (l.take i)+(l[i].toNat - 48) by rw [ajQ hil,Seg.Ij])
     have Hd:=uQ (show (l.take (i+1)).all Seg.lu=Seg.lu l[i] by rw [ajQ hil,ajZ,sU.out,Bool.true_and];simp)
     have Hv:=uQ (Seg.ait _ sU.out)
     generalize l[i]=c at *
     by_cases hd:Seg.lu c=true
     ·have hd':=hd
      unfold Seg.lu at hd'
      rw [ajc,adN,adN]at hd'
      have b1:¬ c.toNat<48:=by omega
      have b2:¬ 57<c.toNat:=by omega
      have b3:(c.toNat:Int) - 48=((c.toNat - 48:Nat):Int):=by omega
      have ado:Seg.val (l.take i)<100000000:=by
       have:=Hv.out
       rw [acJ]at this
       exact Nat.lt_of_lt_of_le this (akv aN oQ:_≤10^8)
      have yY:=uQ hd'
      have b4:IntKind.i64.wrap (10 * (Seg.val (l.take i):Int))=10 * (Seg.val (l.take i):Int):=by rw [ajt];omega
      have b5:IntKind.i64.wrap (10 * (Seg.val (l.take i):Int)+((c.toNat - 48:Nat):Int))=10 * (Seg.val (l.take i):Int)+((c.toNat - 48:Nat):Int):=by rw [ajt];omega
      have b6:IntKind.i64.wrap ((i:Int)+1)=(i:Int)+1:=by rw [ajt];omega
      clear ado hd' hcell'
      generalize c.toNat - 48=d at *
      go_wp2_with fail
      go_roundg (8 - (i+1))
      case measure=>omega
      case rel=>
       refine ⟨i+1,rfl,by omega,?_,rfl,by rw [Hd.out,hd],rfl⟩
       rw [Hn.out];rfl
     ·have hno:¬ (l.all Seg.lu=true∧Seg.val l<1048576):=fun hh=>hd (ajE.1 hh.1 _ Hc.out)
      have SS:=uQ (hN.out.trans (abw hno))
      have hd':=hd
      unfold Seg.lu at hd'
      rw [ajc,adN,adN]at hd'
      clear hcell' hno Hn Hd
      by_cases b1:c.toNat<48
      ·clear hd'
       go_wp2
       go_ret2
       exact ⟨_,rfl,by rw [SS.out];rfl,hB⟩
      ·have b2:57<c.toNat:=by omega
       clear hd'
       go_wp2
       go_ret2
       exact ⟨_,rfl,by rw [SS.out];rfl,hB⟩
    ·obtain rfl:i=8:=by omega
     have hc8:((8:Nat):Int)=8:=rfl
     rw [hc8]
     clear hc8 hi
     have htk:=uQ (show l.take 8=l from aeb (by have:=Hlen.out;omega))
     have hN3:=uQ (show Seg.number s=if Seg.val l<1048576 then ((Seg.val l:Int),true) else (0,false) by
      have:=sU.out
      rw [htk.out]at this
      rw [hN.out];simp only [this,true_and])
     rw [htk.out]
     clear hcell' hi'
     obtain ⟨V,hV⟩:∃ V:Int,V=(Seg.val l:Int):=⟨_,rfl⟩
     have HV:=uQ hV
     rw [← hV]
     by_cases hv:1048576≤V
     ·have hvd:decide (1048576≤V)=true:=aiu hv
      have Hv:=uQ hv
      clear hv hV
      go_wp2
      go_ret2
      exact ⟨_,rfl,by rw [hN3.out,abw (by have:=Hv.out;have:=HV.out;omega)];rfl,hB⟩
     ·have hvd:decide (1048576≤V)=false:=aex hv
      have Hv:=uQ hv
      clear hv hV
      go_wp2
      go_ret2
      exact ⟨_,rfl,by rw [hN3.out,ac3 (by have:=Hv.out;have:=HV.out;omega),← HV.out];rfl,hB⟩
  ·have BN:((s.extract 0 4).toList==[115,101,103,46])=false:=by rw [JR s];exact aj1 h2
   have hN:=uQ (show Seg.number s=(0,false) by
    unfold Seg.number
    simp only [h2,false_and,and_false,akO])
   go_enter Tryz.func90,Tryz.ntmps90
   go_wp2
   go_ret2
   exact ⟨_,rfl,by rw [hN.out];rfl,h⟩
 ·have hs:¬ ((s.size:Int)=12):=by omega
  have h1d:decide ((s.size:Int)=12)=false:=aex hs
  have hN:=uQ (show Seg.number s=(0,false) by
    unfold Seg.number
    simp only [adu,show ¬ s.data.size=12 from h1,false_and,akO])
  go_enter Tryz.func90,Tryz.ntmps90
  go_wp2
  go_ret2
  exact ⟨_,rfl,by rw [hN.out];rfl,h⟩
end
end Go.Proofs.YtiglchkhikciiaaGreatDoor
namespace Go.Seg
open Go.ay
structure Log where
 limit:Int
 l:List (Int×Int)
 on:Bool
 fresh:Int
def alive (M:ay):Int:=if (M.size ByteArray.empty).2=9 then 0 else (M.size ByteArray.empty).2
def found (M:ay) (l:List ByteArray):List (Int×Int):=l.filterMap fun s=>if (number s).2=true then some ((number s).1,(M.size s).1) else none
def fresh (M:ay) (limit:Int):Log:=⟨limit,found M M.list,false,0⟩
theorem ach (M:ay) (l:List ByteArray) (s:ByteArray):found M (l++[s])=found M l++(if (number s).2=true then [((number s).1,(M.size s).1)] else []):=by
 unfold found
 rw [List.filterMap_append]
 congr 1
 by_cases h:(number s).2=true <;> simp [h]
theorem acg (M:ay) (l:List ByteArray):(found M l).length≤l.length:=List.length_filterMap_le _ _
end Go.Seg
namespace Go.Proofs.YtiglchkhikciiaaGreatDoor
open Go Go.Sl Go.ay Go.MapKept Go.RowKit
def dR (l:List (Int×Int)):List Value:=l.flatMap fun s=>[.int .i64 s.1,.int .i64 s.2]
abbrev lD (p m:Nat) (L:Seg.Log) (lv:Value):aG:=pt p (.cells #[ptr m,.int .i64 L.limit,lv,.bool L.on,.int .i64 L.fresh] 147 (0,0))
def zi (p m:Nat) (L:Seg.Log) (lv:Value):List aG:=[lD p m L lv,aC 153 2 lv (dR L.l)]
def aI (p m:Nat) (L:Seg.Log):aG:=fun h=>∃ lv,stars (zi p m L lv) h
theorem Us:(Tryz.prog.info? 153).map (fun i=>(i.zero,i.size,i.bytes))=some (some (.agg #[.int .i64 0,.int .i64 0]),2,16):=by kernel_rfl
section
variable {w0 w:World}{F:List aG}{v bv dv x lv:Value}{q p m K:Nat}{L:Seg.Log}{M:ay}
theorem aI.open (h:Sat w0 w (aI p m L::F)):∃ lv,Sat w0 w (zi p m L lv++F):=by
 obtain ⟨ha,x,hx,p,q,d,rfl,⟨lv,hp⟩,hq⟩:=h
 refine ⟨lv,ha,_,hx,?_⟩
 rw [pK]
 exact ⟨p,q,d,rfl,hp,hq⟩
theorem aI.shut (h:Sat w0 w (zi p m L lv++F)):Sat w0 w (aI p m L::F):=
 h.join fun _ hx=>⟨lv,hx⟩
theorem jW (l:List (Int×Int)):(dR l).length=2 * l.length:=by
 unfold dR
 induction l with
 |nil=>rfl
 |cons a l ih=>rw [ai7,aal,ih];simp;omega
theorem yN (l k:List (Int×Int)):dR (l++k)=dR l++dR k:=by unfold dR;rw [ajj]
theorem ZP (hM:M.Ok K) (h:Sat w0 w (aH m M::F)) :
  Calls Tryz.prog 89 #[ptr m] w (aO fun v w'=>v=errno (Seg.alive M)∧w=w'):=by
 have hs:=Ai hM h ByteArray.empty
 have AO:=uQ (show Seg.alive M=if (M.size ByteArray.empty).2=9 then 0 else (M.size ByteArray.empty).2 from rfl)
 generalize (M.size ByteArray.empty).2=e at *
 generalize (M.size ByteArray.empty).1=n at *
 by_cases he:e=9
 ·subst he
  go_enter Tryz.func89,Tryz.ntmps89
  go_wp2_with fail
  refine hs.mono ?_
  rintro e w1 ⟨v,rfl,rfl,rfl⟩
  clear hs
  go_wp2
  go_ret
  exact ⟨_,rfl,by rw [AO.out];rfl,rfl⟩
 ·have hed:(e==9)=false:=aj1 he
  have He:=uQ he
  clear he
  go_enter Tryz.func89,Tryz.ntmps89
  go_wp2_with fail
  refine hs.mono ?_
  rintro e w1 ⟨v,rfl,rfl,rfl⟩
  clear hs
  go_wp2
  go_ret
  exact ⟨_,rfl,by rw [AO.out,abw He.out];rfl,rfl⟩
set_option maxRecDepth 20000 in
theorem afh (hM:M.Ok K) (limit:Int) (h:Sat w0 w (aH m M::F)) (ha:Seg.alive M=0) (h1:128≤limit) (h2:limit≤1048576) :
  Calls Tryz.prog 45 #[ptr m,.int .i64 limit] w (aO fun v w'=>∃ p,v = .tuple #[ptr p,errno 0]∧Sat w0 w' (aI p m (Seg.fresh M limit)::aH m M::F)):=by
 have hal:=ZP hM h
 rw [ha]at hal
 have hd1:decide (limit<128)=false:=aex oQ
 have hd2:decide (1048576<limit)=false:=aex oQ
 obtain ⟨i,hi,hz0,hz1,hz2⟩:=info_parts Us
 have hll:=uQ (show M.list.length≤500 by
  unfold ay.list
  split
  ·simp
  ·rw [aaJ];exact hM.fH.len)
 clear h1 h2 ha
 go_enter Tryz.func45,Tryz.ntmps45
 go_wp2_with fail
 refine hal.mono ?_
 rintro e w1 ⟨v,rfl,rfl,rfl⟩
 clear hal
 have hB:=h.alloc (.cells #[ptr m,.int .i64 limit,.slice none 0 0,.bool false,.int .i64 0] 147)
 have hL:=Dk hM hB.aZ
 go_wp2_with fail
 refine hL.mono ?_
 rintro e w2 ⟨v,rfl,hS,ba,bn,bc,rfl⟩
 have hlen:bn=M.list.length:=by
  obtain ⟨a',n',c',he,hl,_⟩:=Sat.rd hS
  cases he
  rw [ahN,aiw]at hl
  exact hl.symm
 clear hL hB
 subst hlen
 generalize w.heap.size=q at *
 go_wp2_with fail
 go_loopg [32] M.list.length (fun g iq wr=>∃ (i:Nat) (lv:Value),g=M.list.length - i∧i≤M.list.length∧iq = .int .i64 i∧Sat w0 wr (zi q m ⟨limit,Seg.found M (M.list.take i),false,0⟩ lv++aC 9 1 (.slice ba M.list.length bc) (strs M.list)::aH m M::F))
 case atStart=>exact ⟨0,.slice none 0 0,rfl,afm _,rfl,by
  have:=Sat.fD (T:=153) (sz:=2) |>.2 hS
  exact this.sel 4 [3,0,1,2] rfl rfl⟩
 case round=>
  obtain ⟨j,lv,rfl,hj,rfl,hR⟩:=hrel
  clear hS
  by_cases hj':j<M.list.length
  ·have hx:M.list[j]?=some (M.list[j]'hj'):=aak hj'
   have hcx:=Sat.rd (hR.sel 3 [2] rfl rfl)
   obtain ⟨bk,off,hba,c1⟩:=zZ hcx (ahL hx)
   have pU:=uQ (show Seg.found M (M.list.take (j+1))=Seg.found M (M.list.take j)++(if (Seg.number M.list[j]).2=true then [((Seg.number M.list[j]).1,(M.size M.list[j]).1)] else []) by
    rw [ajQ hj',Seg.ach])
   have hnum:=NZ M.list[j] hR
   have xw:=uQ (Seg.acg M (M.list.take j))
   generalize M.list[j]=s at *
   have hic:(j:Int)<(M.list.length:Int):=by omega
   have hjl:=uQ hj'
   clear hx hcx hj'
   subst hba
   go_wp2_with fail
   refine hnum.mono ?_
   rintro e w3 ⟨v,rfl,rfl,E8⟩
   clear hnum
   have hwi:IntKind.i64.wrap ((j:Int)+1)=(j:Int)+1:=acI _ (by have:=hll.out;have:=hjl.out;omega)
   cases hb:(Seg.number s).2
   ·have Hb:=uQ hb
    clear hb
    go_wp2
    go_roundg (M.list.length - (j+1))
    case measure=>have:=hjl.out;omega
    case rel=>
     refine ⟨j+1,lv,rfl,aiy hjl.out,by first|rfl|go_num,?_⟩
     rw [pU.out,Hb.out,abw aN,afo]
     exact E8
   ·have Hb:=uQ hb
    clear hb
    have hsz:=Ai hM (E8.sel 4 [3,0,1,2] rfl rfl) s
    go_wp2_with fail
    refine hsz.mono ?_
    rintro e w4 ⟨v,rfl,rfl,rfl⟩
    clear hsz
    have c2:=E8.cellAt 2 _ rfl
    generalize (M.size s).1=sz at *
    generalize (M.size s).2=se at *
    generalize (Seg.number s).1=nu at *
    have h7:=E8.alloc (.cells #[.int .i64 nu,.int .i64 sz] 153)
    have hoc:∀ u∈(#[.int .i64 nu,.int .i64 sz]:Array Value).toList,u.oneCell'=true:=by
     intro u hu
     simp only [aer,ajU,alb]at hu
     rcases hu with rfl|rfl <;> rfl
    have hlen:(dR (Seg.found M (M.list.take j))).length≤2 * 500:=by
     rw [jW];have:=xw.out;have:=hll.out;rw [acJ]at *;omega
    have h63:(dR (Seg.found M (M.list.take j))).length+2≤maxLen:=by unfold maxLen;omega
    have hby:((dR (Seg.found M (M.list.take j))).length+2) * i.bytes≤140737488355328:=by rw [hz2];omega
    have h8:Sat w0 _ (aC 153 2 lv (dR (Seg.found M (M.list.take j)))::lD q m ⟨limit,Seg.found M (M.list.take j),false,0⟩ lv::aC 9 1 (.slice (some ⟨bk,off,none⟩) M.list.length bc) (strs M.list)::aH m M::F):=h7.sel 5 [2,1,3,4] rfl rfl
    clear hlen
    go_wp2_with (at_builtin;go_must (refine wW (w0:=w0) ah _ _ _ ah _ i _ Tryz.underlying145 hi hz0 hz1 ah oQ ah ah hoc h8 (yH _ _ _ 2 1 1 ah) h63 hby ?_);intro v2 w5 hS5 hne;obtain ⟨ab,an,ac,rfl⟩:=hne (by simp);have e2:=hS5.aZ.cellAt 2 _ rfl;have g2:=hS5.aZ.nR 2)
    have hS6:=hS5.aZ.set 2 (.slice (some ⟨ab,0,none⟩) an ac)
    generalize w5.setCell _ _=w6 at *
    go_roundg (M.list.length - (j+1))
    case measure=>have:=hjl.out;omega
    case rel=>
     refine ⟨j+1,.slice (some ⟨ab,0,none⟩) an ac,rfl,aiy hjl.out,by first|rfl|go_num,?_⟩
     rw [pU.out,Hb.out,ac3 rfl]
     unfold zi
     rw [yN]
     exact hS6
  ·obtain rfl:j=M.list.length:=by omega
   have hic:¬ (M.list.length:Int)<(M.list.length:Int):=by omega
   rw [aiv]at hR
   clear hj hj'
   go_wp2
   go_ret2
   refine ⟨_,rfl,q,rfl,?_⟩
   exact aI.shut (hR.sel 4 [0,1,3] rfl rfl)
end
end Go.Proofs.YtiglchkhikciiaaGreatDoor
