import Derived.Sort.Walk0
import Derived.WalkKit
import Derived.Maps.OwnSet
import Derived.Lib.Hide
import Derived.Maps.RangeWalk
import Derived.Maps.AppendAt
import Derived.Test.YtlimfgdbfadohaaGreatDoorChecked
import Derived.WalkLawsBesides
import Derived.WalkSpells
import Derived.OrdersHeld
import Derived.Deep.RegionHeld3
import Derived.Deep.DrawnRows
import Derived.Test.YtlimfgdbfadohaaGreatDoorShelf
import Derived.Deep.LoopGhost
namespace Go
open Go
theorem rQ {p : Prop} (h : p := by rfl) : p := h
theorem kQ {p : Prop} (h : p := by kernel_rfl) : p := h
theorem aQ {p : Prop} (h : p := by assumption) : p := h
theorem oQ {p : Prop} (h : p := by omega) : p := h
theorem pU {i : Nat} (h : -9223372036854775808 ≤ ((i : Int) + 1) ∧ ((i : Int) + 1) ≤ 9223372036854775807 := by omega) : IntKind.i64.wrap ((i : Int) + 1) = (i : Int) + 1 := by rw [IntKind.wrap_i64]; omega
theorem iQ {p : Prop} (h : p := by intro _ _ _ h; exact h) : p := h
theorem dQ {p : Prop} (h : p := by decide) : p := h
theorem bQ {a b : Nat} (h : Nat.ble a b = true := by rfl) : a ≤ b := Nat.le_of_ble_eq_true h
theorem uQ {p : Prop} (h : p) : RowKit.Hid p := Lib.hid h
end Go
set_option linter.unusedVariables false
set_option maxHeartbeats 128000000
theorem au {p:Prop} (h:p:=by kernel_rfl):p:=h
theorem ah {p:Prop} (h:p:=by rfl):p:=h
theorem aJ {p:Prop} (h:p:=by decide):p:=h
theorem bC {p:Prop} (h:p:=by intro _ _ _ h;exact h):p:=h
theorem bH {p:Prop} (h:p:=by exact Nat.le_of_ble_eq_true rQ):p:=h
namespace Go.ak
abbrev Bs:=List UInt8
def half:List Nat:=[0,498536548,997073096,651767980,1994146192,1802195444,1303535960,1342533948,3988292384,4027552580,3604390888,3412177804,2607071920,2262029012,2685067896,3183342108]
def zG (x:Nat):Nat:=(x / 16) ^^^ half.getD (x%16) 0
def sD (x:Nat) (c:UInt8):Nat:=zG (zG (x ^^^ c.toNat))
def Bd (s:Nat) (b:Bs):Nat:=4294967295 - b.foldl sD (4294967295 - s)
def crc (b:Bs):Nat:=Bd 0 b
theorem Ew:∀ i,half.getD i 0<4294967296:=by
 intro i
 rw [List.getD_eq_getElem?_getD]
 cases h:half[i]? with
 |none=>simp
 |some x=>
  have:x∈half:=List.mem_of_getElem? h
  have h2:∀ y∈half,y<4294967296:=by decide
  exact h2 x this
theorem nD {a b:Nat} (ha:a<4294967296) (hb:b<4294967296):a ^^^ b<4294967296:=Nat.xor_lt_two_pow (n:=32) ha hb
theorem PG {x:Nat} (h:x<4294967296):zG x<4294967296:=nD oQ (Ew _)
theorem YF {x:Nat} (h:x<4294967296) (c:UInt8):sD x c<4294967296:=PG (PG (nD h (by have:=c.toNat_lt;omega)))
theorem PI:∀ (b:Bs) (x:Nat),x<4294967296→b.foldl sD x<4294967296
 |[],_,h=>h
 |c::b,x,h=>PI b _ (YF h c)
theorem Ij (b:Bs):crc b<4294967296:=by unfold crc Bd;omega
def le (x:Nat):Nat→Bs
 |0=>[]
 |n+1=>UInt8.ofNat (x%256)::le (x / 256) n
def num:Bs→Nat
 |[]=>0
 |c::b=>c.toNat+256 * num b
theorem gW (x n:Nat):(le x n).length=n:=by
 induction n generalizing x with
 |zero=>rfl
 |succ n ih=>simp [le,ih]
theorem CG (n:Nat):∀ x,x<256^n→num (le x n)=x:=by
 induction n with
 |zero=>intro x h;simp at h;subst h;rfl
 |succ n ih=>
  intro x h
  show (UInt8.ofNat (x%256)).toNat+256 * num (le (x / 256) n)=x
  rw [ih (x / 256) (by rw [Nat.div_lt_iff_lt_mul oQ];rw [Nat.pow_succ]at h;exact h),UInt8.toNat_ofNat']
  omega
theorem sJ:∀ b:Bs,num b<256^b.length
 |[]=>by simp [num]
 |c::b=>by
  have h1:=sJ b
  have h2:=c.toNat_lt
  show c.toNat+256 * num b<256^(b.length+1)
  rw [Nat.pow_succ]
  omega
structure aX where
 tag:Int
 key:Bs
 data:Bs
def zero32:Bs:=List.replicate 32 0
def check (x:aX):Int:=
 if x.tag=0 then (if 16384<x.data.length then 5 else 0)
 else if x.tag=2 then (if x.key≠zero32 then 4 else if 0<x.data.length then 4 else if 16384<x.data.length then 5 else 0)
 else if x.tag=1 then (if 0<x.data.length then 4 else if 16384<x.data.length then 5 else 0)
 else 4
def size (x:aX):Nat:=if check x≠0 then 0 else if x.tag=2 then 9 else 41+x.data.length
def body (x:aX):Bs:=le (size x) 4++[UInt8.ofNat x.tag.toNat]++(if x.tag=2 then [] else x.key)++x.data
def encode (x:aX):Bs×Int:=if check x≠0 then ([],check x) else (le (crc (body x)) 4++body x,0)
def zeroE:aX:=⟨0,zero32,[]⟩
def fits (tag:UInt8) (n:Nat):Bool:=
 if tag=0 then decide (41≤n∧n≤16425) else if tag=1 then decide (n=41) else if tag=2 then decide (n=9) else false
def read (b:Bs):aX×Nat×Int:=
 if b.length<9 then (zeroE,0,3)
 else
  let n:=num ((b.drop 4).take 4)
  if fits (b.getD 8 0) n=false then (zeroE,0,4)
  else if b.length<n then (zeroE,0,3)
  else if crc ((b.take n).drop 4)≠num (b.take 4) then (zeroE,0,13)
  else if 41≤n then (⟨(b.getD 8 0).toNat,(b.drop 9).take 32,(b.take n).drop 41⟩,n,0)
  else (⟨(b.getD 8 0).toNat,zero32,[]⟩,n,0)
end Go.ak
namespace Go.Tab
open Go.ak (Bs num)
structure Slot (V:Type) where
 st:Nat
 key:Bs
 val:V
def home (k:Bs) (c:Nat):Nat:=num (k.take 4)%c
def pos (k:Bs) (c d:Nat):Nat:=(home k c+d)%c
section
variable {V:Type}{s s':List (Slot V)}{x y:Slot V}{k l:Bs}{v u:V}{d e i j c:Nat}
def Slot.stop (x:Slot V) (k:Bs):Prop:=x.st=0∨(x.st=1∧x.key=k)
instance (x:Slot V) (k:Bs):Decidable (x.stop k):=by unfold Slot.stop;infer_instance
def o9 (s:List (Slot V)) (k:Bs) (i:Nat):Prop:=∃ x,s[i]?=some x∧x.stop k
structure Ends (s:List (Slot V)) (k:Bs) (d:Nat):Prop where
 lt:d<s.length
 here:o9 s k (pos k s.length d)
 no:∀ e,e<d→¬ o9 s k (pos k s.length e)
structure Good (s:List (Slot V)):Prop where
 pow:∃ j,s.length=2^j∧3≤j
 st:∀ x∈s,x.st≤2
 key:∀ x∈s,x.key.length=32
 reach:∀ i x,s[i]?=some x→x.st=1→∃ d,d<s.length∧pos x.key s.length d=i∧∀ e,e<d→¬ o9 s x.key (pos x.key s.length e)
def Has (s:List (Slot V)) (k:Bs) (v:V):Prop:=∃ (i:Nat) (x:Slot V),s[i]?=some x∧x.st=1∧x.key=k∧x.val=v
theorem Good.gZ (h:Good s):0<s.length:=by
 obtain ⟨j,h1,_⟩:=h.pow
 rw [h1];exact Nat.two_pow_pos j
theorem jS (h:0<c):pos k c d<c:=Nat.mod_lt _ h
theorem Jf (h:0<c):home k c<c:=Nat.mod_lt _ h
theorem Ko (h:0<c):(pos k c d+1)%c=pos k c (d+1):=by
 unfold pos
 rw [Nat.mod_add_mod,Nat.add_assoc]
theorem Kq (h:0<c):pos k c 0=home k c:=by
 unfold pos
 rw [Nat.add_zero];exact Nat.mod_eq_of_lt (Jf h)
theorem acZ (h:i<c):∃ d,d<c∧pos k c d=i:=by
 have hc:0<c:=by omega
 have hh:home k c<c:=Jf hc
 by_cases hi:home k c≤i
 ·refine ⟨i - home k c,by omega,?_⟩
  unfold pos
  rw [show home k c+(i - home k c)=i by omega]
  exact Nat.mod_eq_of_lt h
 ·refine ⟨i+c - home k c,by omega,?_⟩
  unfold pos
  rw [show home k c+(i+c - home k c)=i+c by omega,Nat.add_mod_right]
  exact Nat.mod_eq_of_lt h
theorem ac0 (hd:d<c) (he:e<c) (h:pos k c d=pos k c e):d=e:=by
 have hc:0<c:=by omega
 have hh:home k c<c:=Jf hc
 unfold pos at h
 have f:∀ d,d<c→(home k c+d)%c=if home k c+d<c then home k c+d else home k c+d - c:=fun d hd=>by
  split
  ·exact Nat.mod_eq_of_lt ‹_›
  ·rw [Nat.mod_eq_sub_mod oQ];exact Nat.mod_eq_of_lt oQ
 rw [f d hd,f e he]at h
 split at h <;> split at h <;> omega
theorem least {p:Nat→Prop}:∀ (n:Nat),(∃ d,d<n∧p d)→∃ d,d<n∧p d∧∀ e,e<d→¬ p e
 |0,h=>by obtain ⟨d,hd,_⟩:=h;omega
 |n+1,h=>by
  by_cases h1:∃ d,d<n∧p d
  ·obtain ⟨d,h2,h3,h4⟩:=least n h1
   exact ⟨d,by omega,h3,h4⟩
  ·obtain ⟨d,h2,h3⟩:=h
   refine ⟨d,h2,h3,fun e he h5=>h1 ⟨e,by omega,h5⟩⟩
theorem Ei (h:Good s) (hf:∃ x∈s,x.st=0):∃ d,Ends s k d:=by
 obtain ⟨x,hx,h0⟩:=hf
 obtain ⟨i,hi,he⟩:=List.getElem_of_mem hx
 obtain ⟨d,h1,h2⟩:=acZ (k:=k) hi
 obtain ⟨d',a,b,c⟩:=least (p:=fun d=>o9 s k (pos k s.length d)) s.length ⟨d,h1,by rw [h2];exact ⟨x,by rw [List.getElem?_eq_getElem hi,he],.inl h0⟩⟩
 exact ⟨d',a,b,c⟩
theorem Ends.unique (h:Ends s k d) (h':Ends s k e):d=e:=by
 rcases Nat.lt_trichotomy d e with q|q|q
 ·exact absurd h.here (h'.no d q)
 ·exact q
 ·exact absurd h'.here (h.no e q)
theorem Good.ends (h:Good s) (hi:s[i]?=some x) (hf:x.st=1):∃ d,Ends s x.key d∧pos x.key s.length d=i:=by
 obtain ⟨d,h1,h2,h3⟩:=h.reach i x hi hf
 exact ⟨d,⟨h1,⟨x,by rw [h2];exact hi,.inr ⟨hf,rfl⟩⟩,h3⟩,h2⟩
theorem Ends.slot (h:Ends s k d):∃ x,s[pos k s.length d]?=some x∧x.stop k:=h.here
theorem Eh (he:Ends s k d) (hx:s[pos k s.length d]?=some x) (hf:x.st=1):x.key=k∧Has s k x.val:=by
 obtain ⟨y,hy,hs⟩:=he.here
 rw [hx]at hy;cases hy
 rcases hs with h|⟨_,h⟩
 ·omega
 ·exact ⟨h,_,x,hx,hf,h,rfl⟩
theorem Ef (g:Good s) (he:Ends s k d) (hx:s[pos k s.length d]?=some x) (hf:x.st≠1):x.st=0∧∀ v,¬ Has s k v:=by
 obtain ⟨y,hy,hs⟩:=he.here
 rw [hx]at hy;cases hy
 refine ⟨?_,fun v hv=>?_⟩
 ·rcases hs with h|⟨h,_⟩
  ·exact h
  ·exact absurd h hf
 ·obtain ⟨i,z,hz,h1,rfl,_⟩:=hv
  obtain ⟨d',h2,h3⟩:=g.ends hz h1
  obtain rfl:=he.unique h2
  rw [h3,hz]at hx;cases hx
  exact hf h1
theorem Good.one (g:Good s) (hx:s[i]?=some x) (hy:s[j]?=some y) (h1:x.st=1) (h2:y.st=1) (hk:x.key=y.key):i=j:=by
 obtain ⟨d,a,b⟩:=g.ends hx h1
 obtain ⟨e,a',b'⟩:=g.ends hy h2
 rw [← hk]at a' b'
 obtain rfl:=a.unique a'
 rw [← b,← b']
theorem sV (hi:i<s.length):(s.set i x)[i]?=some x:=by rw [List.getElem?_set_self hi]
theorem qK (h:i≠j):(s.set i x)[j]?=s[j]?:=List.getElem?_set_ne h
theorem Fb (g:Good s) (he:Ends s k d) (hx:s[pos k s.length d]?=some x) (hf:x.st=1) (v:V) :
  Good (s.set (pos k s.length d) ⟨x.st,x.key,v⟩)∧∀ k' v',Has (s.set (pos k s.length d) ⟨x.st,x.key,v⟩) k' v'↔if k'=k then v'=v else Has s k' v':=by
 obtain ⟨hk,_⟩:=Eh he hx hf
 have hlt:pos k s.length d<s.length:=jS g.gZ
 generalize hp:pos k s.length d=p at *
 have hst:∀ q l,o9 (s.set p ⟨x.st,x.key,v⟩) l q↔o9 s l q:=fun q l=>by
  unfold o9
  by_cases h:p=q
  ·subst h
   rw [sV hlt,hx]
   constructor
   ·rintro ⟨y,hy,hs⟩;cases hy;exact ⟨x,rfl,hs⟩
   ·rintro ⟨y,hy,hs⟩;cases hy;exact ⟨_,rfl,hs⟩
  ·rw [qK h]
 have hmem:x∈s:=List.mem_of_getElem? hx
 refine ⟨⟨by rw [List.length_set];exact g.pow,fun y hy=>?_,fun y hy=>?_,fun q y hq hy=>?_⟩,fun k' v'=>?_⟩
 ·rcases List.mem_or_eq_of_mem_set hy with h|rfl
  ·exact g.st y h
  ·exact g.st x hmem
 ·rcases List.mem_or_eq_of_mem_set hy with h|rfl
  ·exact g.key y h
  ·exact g.key x hmem
 ·rw [List.length_set]
  by_cases h:p=q
  ·subst h
   rw [sV hlt]at hq;cases hq
   obtain ⟨d',a,b,c⟩:=g.reach p x hx hf
   exact ⟨d',a,b,fun e h hh=>c e h ((hst _ _).1 hh)⟩
  ·rw [qK h]at hq
   obtain ⟨d',a,b,c⟩:=g.reach q y hq hy
   exact ⟨d',a,b,fun e h hh=>c e h ((hst _ _).1 hh)⟩
 ·constructor
  ·rintro ⟨q,y,hq,h1,h2,h3⟩
   by_cases h:p=q
   ·subst h
    rw [sV hlt]at hq;cases hq
    rw [if_pos (h2.symm.trans hk)];exact h3.symm
   ·rw [qK h]at hq
    rw [if_neg fun hkk:k'=k=>h (g.one hx hq hf h1 (hk.trans (hkk.symm.trans h2.symm)))]
    exact ⟨q,y,hq,h1,h2,h3⟩
  ·intro h
   split at h
   ·rename_i hkk
    exact ⟨p,_,sV hlt,hf,hk.trans hkk.symm,h.symm⟩
   ·rename_i hkk
    obtain ⟨q,y,hq,h1,h2,h3⟩:=h
    have:p≠q:=fun h=>by subst h;rw [hx]at hq;cases hq;exact hkk (h2.symm.trans hk)
    exact ⟨q,y,by rw [qK this];exact hq,h1,h2,h3⟩
theorem CQ (g:Good s) (he:Ends s k d) (hx:s[pos k s.length d]?=some x) (hf:x.st≠1) (hk:k.length=32) (v:V) :
  Good (s.set (pos k s.length d) ⟨1,k,v⟩)∧∀ k' v',Has (s.set (pos k s.length d) ⟨1,k,v⟩) k' v'↔if k'=k then v'=v else Has s k' v':=by
 obtain ⟨h0,hno⟩:=Ef g he hx hf
 have hlt:pos k s.length d<s.length:=jS g.gZ
 have hst:∀ q l,q≠pos k s.length d→(o9 (s.set (pos k s.length d) ⟨1,k,v⟩) l q↔o9 s l q):=fun q l h=>by
  unfold o9
  rw [qK (Ne.symm h)]
 have hp0:∀ l,o9 s l (pos k s.length d):=fun l=>⟨x,hx,.inl h0⟩
 refine ⟨⟨by rw [List.length_set];exact g.pow,fun y hy=>?_,fun y hy=>?_,fun q y hq hy=>?_⟩,fun k' v'=>?_⟩
 ·rcases List.mem_or_eq_of_mem_set hy with h|rfl
  ·exact g.st y h
  ·exact (by decide:1≤2)
 ·rcases List.mem_or_eq_of_mem_set hy with h|rfl
  ·exact g.key y h
  ·exact hk
 ·rw [List.length_set]
  by_cases h:pos k s.length d=q
  ·subst h
   rw [sV hlt]at hq;cases hq
   refine ⟨d,he.lt,rfl,fun e h=>?_⟩
   have hne:pos k s.length e≠pos k s.length d:=fun hh=>by have:=ac0 (Nat.lt_trans h he.lt) he.lt hh;omega
   exact fun hh=>he.no e h ((hst _ _ hne).1 hh)
  ·rw [qK h]at hq
   obtain ⟨d',a,b,c⟩:=g.reach q y hq hy
   refine ⟨d',a,b,fun e h=>?_⟩
   have hne:pos y.key s.length e≠pos k s.length d:=fun hh=>c e h (by rw [hh];exact hp0 _)
   exact fun hh=>c e h ((hst _ _ hne).1 hh)
 ·constructor
  ·rintro ⟨q,y,hq,h1,h2,h3⟩
   by_cases h:pos k s.length d=q
   ·subst h
    rw [sV hlt]at hq;cases hq
    rw [if_pos h2.symm];exact h3.symm
   ·rw [qK h]at hq
    rw [if_neg fun hkk:k'=k=>hno v' ⟨q,y,hq,h1,h2.trans hkk,h3⟩]
    exact ⟨q,y,hq,h1,h2,h3⟩
  ·intro h
   split at h
   ·rename_i hkk
    exact ⟨_,_,sV hlt,rfl,hkk.symm,h.symm⟩
   ·obtain ⟨q,y,hq,h1,h2,h3⟩:=h
    have:pos k s.length d≠q:=fun h=>by subst h;rw [hx]at hq;cases hq;exact hf h1
    exact ⟨q,y,by rw [qK this];exact hq,h1,h2,h3⟩
def jg (s:List (Slot V)):Nat:=s.countP fun x=>x.st==1
def used (s:List (Slot V)):Nat:=s.countP fun x=>x.st != 0
theorem uJ (p:Slot V→Bool):∀ (s:List (Slot V)) (i:Nat) (x y:Slot V),s[i]?=some x→(s.set i y).countP p+(if p x=true then 1 else 0)=s.countP p+(if p y=true then 1 else 0)
 |[],_,_,_,h=>by simp at h
 |a::s,0,x,y,h=>by
  obtain rfl:a=x:=by simpa using h
  rw [List.set_cons_zero,List.countP_cons,List.countP_cons];omega
 |a::s,i+1,x,y,h=>by
  rw [List.set_cons_succ,List.countP_cons,List.countP_cons]
  have:=uJ p s i x y (by simpa using h)
  omega
theorem Eo (h:used s<s.length):∃ x∈s,x.st=0:=by
 apply Classical.byContradiction
 intro hn
 have:used s=s.length:=by
  unfold used
  rw [List.countP_eq_length]
  intro x hx
  have:x.st≠0:=fun h0=>hn ⟨x,hx,h0⟩
  simpa using this
 omega
structure Tb (V:Type) where
 slots:List (Slot V)
 n:Nat
 gone:Nat
structure Tb.Ok (t:Tb V):Prop where
 good:Good t.slots
 n:t.n=jg t.slots
 gone:t.n+t.gone=used t.slots
 load:4 * (t.n+t.gone)≤3 * t.slots.length
 size:t.slots.length≤8+4 * (t.n+t.gone)
theorem Tb.Ok.free {t:Tb V} (h:t.Ok):∃ x∈t.slots,x.st=0:=Eo (by have:=h.gone;have:=h.load;have:=h.good.gZ;omega)
theorem Tb.Ok.ends {t:Tb V} (h:t.Ok) (k:Bs):∃ d,Ends t.slots k d:=Ei h.good h.free
def Tb.Is (t:Tb V) (m:Bs→Option V):Prop:=∀ k v,Has t.slots k v↔m k=some v
def put (m:Bs→Option V) (k:Bs) (v:V):Bs→Option V:=fun l=>if l=k then some v else m l
theorem zJ {t:Tb V}{m:Bs→Option V} (hm:t.Is m) (h:∀ k' v',Has s' k' v'↔if k'=k then v'=v else Has t.slots k' v') (n g:Nat):(⟨s',n,g⟩:Tb V).Is (put m k v):=fun k' v'=>by
 rw [show (⟨s',n,g⟩:Tb V).slots=s' from rfl,h]
 unfold put
 split
 ·exact ⟨fun e=>by rw [e],fun e=>(Option.some.inj e).symm⟩
 ·exact hm k' v'
theorem Ku {t:Tb V} (h:t.Ok) (he:Ends t.slots k d) (hx:t.slots[pos k t.slots.length d]?=some x) (hf:x.st=1) (v:V) :
  (⟨t.slots.set (pos k t.slots.length d) ⟨x.st,x.key,v⟩,t.n,t.gone⟩:Tb V).Ok:=by
 have h1:=uJ (fun x=>x.st==1) t.slots _ x ⟨x.st,x.key,v⟩ hx
 have h2:=uJ (fun x=>x.st != 0) t.slots _ x ⟨x.st,x.key,v⟩ hx
 refine ⟨(Fb h.good he hx hf v).1,?_,?_,by simp only [List.length_set];exact h.load,by simp only [List.length_set];exact h.size⟩
 ·have:=h.n;unfold jg at *;simp only at *;omega
 ·have:=h.gone;unfold used at *;simp only at *;omega
theorem Kt {t:Tb V} (h:t.Ok) (hl:4 * (t.n+t.gone+1)≤3 * t.slots.length) (he:Ends t.slots k d) (hx:t.slots[pos k t.slots.length d]?=some x) (hf:x.st≠1) (hk:k.length=32) (v:V) :
  (⟨t.slots.set (pos k t.slots.length d) ⟨1,k,v⟩,t.n+1,t.gone⟩:Tb V).Ok:=by
 have h0:=(Ef h.good he hx hf).1
 have h1:=uJ (fun x=>x.st==1) t.slots _ x ⟨1,k,v⟩ hx
 have h2:=uJ (fun x=>x.st != 0) t.slots _ x ⟨1,k,v⟩ hx
 refine ⟨(CQ h.good he hx hf hk v).1,?_,?_,?_,?_⟩
 ·have:=h.n;unfold jg at *;simp [h0]at h1 ⊢;omega
 ·have:=h.gone;unfold used at *;simp [h0]at h2 ⊢;omega
 ·simp only [List.length_set];omega
 ·have:=h.size;simp only [List.length_set];omega
structure Half (old cur:List (Slot V)) (j:Nat):Prop where
 good:Good cur
 has:∀ k v,Has cur k v↔Has (old.take j) k v
 nf:jg cur=jg (old.take j)
 nu:used cur=jg (old.take j)
theorem U1 (h:s[j]?=some x):Has (s.take (j+1)) k v↔Has (s.take j) k v∨(x.st=1∧x.key=k∧x.val=v):=by
 have hj:j<s.length:=(List.getElem?_eq_some_iff.1 h).1
 have e:s.take (j+1)=s.take j++[x]:=by rw [List.take_add_one,h];rfl
 rw [e]
 unfold Has
 constructor
 ·rintro ⟨i,y,hy,a,b,c⟩
  by_cases hi:i<(s.take j).length
  ·rw [List.getElem?_append_left hi]at hy;exact .inl ⟨i,y,hy,a,b,c⟩
  ·rw [List.getElem?_append_right oQ]at hy
   cases hz:i - (s.take j).length with
   |zero=>rw [hz]at hy;cases hy;exact .inr ⟨a,b,c⟩
   |succ z=>rw [hz]at hy;simp at hy
 ·rintro (⟨i,y,hy,a,b,c⟩|⟨a,b,c⟩)
  ·exact ⟨i,y,by rw [List.getElem?_append_left (List.getElem?_eq_some_iff.1 hy).1];exact hy,a,b,c⟩
  ·exact ⟨(s.take j).length,x,by simp,a,b,c⟩
theorem FM (h:s[j]?=some x):jg (s.take (j+1))=jg (s.take j)+(if x.st=1 then 1 else 0):=by
 unfold jg
 rw [List.take_add_one,h,List.countP_append]
 simp [List.countP_cons]
theorem IC (s:List (Slot V)) (j:Nat):jg (s.take j)≤jg s:=by
 unfold jg
 exact (List.take_sublist j s).countP_le
theorem Half.skip {old cur:List (Slot V)} (h:Half old cur j) (hx:old[j]?=some x) (hf:x.st≠1):Half old cur (j+1):=
 ⟨h.good,fun k v=>by rw [U1 hx,h.has];exact ⟨.inl,fun q=>q.elim id fun q=>absurd q.1 hf⟩,by rw [FM hx,if_neg hf];exact h.nf,by rw [FM hx,if_neg hf];exact h.nu⟩
theorem Half.fresh {old cur:List (Slot V)} (go:Good old) (h:Half old cur j) (hx:old[j]?=some x) (hf:x.st=1) (u:V):¬ Has cur x.key u:=by
 rw [h.has]
 rintro ⟨i,y,hy,a,b,c⟩
 have hi:i<(old.take j).length:=(List.getElem?_eq_some_iff.1 hy).1
 have hij:i<j:=by rw [List.length_take]at hi;omega
 have hy':old[i]?=some y:=by rw [List.getElem?_take_of_lt hij]at hy;exact hy
 have:=go.one hy' hx a hf b
 omega
theorem Half.step {old cur:List (Slot V)} (go:Good old) (h:Half old cur j) (hx:old[j]?=some x) (hf:x.st=1) (he:Ends cur x.key d) :
  Half old (cur.set (pos x.key cur.length d) x) (j+1):=by
 obtain ⟨y,hy,hs⟩:=he.slot
 have QW:y.st≠1:=fun h1=>h.fresh go hx hf y.val (Eh he hy h1).2
 obtain ⟨h0,_⟩:=Ef h.good he hy QW
 obtain ⟨st,key,val⟩:=x
 obtain rfl:st=1:=hf
 obtain ⟨g,hh⟩:=CQ h.good he hy QW (go.key _ (List.mem_of_getElem? hx)) val
 have h1:=uJ (fun x=>x.st==1) cur _ y ⟨1,key,val⟩ hy
 have h2:=uJ (fun x=>x.st != 0) cur _ y ⟨1,key,val⟩ hy
 refine ⟨g,fun k v=>?_,?_,?_⟩
 ·rw [hh,U1 hx]
  split
  ·rename_i hk
   subst hk
   constructor
   ·intro e;exact .inr ⟨rfl,rfl,e.symm⟩
   ·rintro (q|⟨_,_,e⟩)
    ·exact absurd ((h.has _ _).2 q) (h.fresh go hx rfl v)
    ·exact e.symm
  ·rename_i hk
   rw [h.has]
   exact ⟨.inl,fun q=>q.elim id fun q=>absurd q.2.1.symm hk⟩
 ·rw [FM hx,if_pos rfl,← h.nf]
  unfold jg at *;simp [h0]at h1 ⊢;omega
 ·rw [FM hx,if_pos rfl,← h.nu]
  unfold used at *;simp [h0]at h2 ⊢;omega
theorem Half.done {old cur:List (Slot V)} (h:Half old cur old.length):Good cur∧(∀ k v,Has cur k v↔Has old k v)∧jg cur=jg old∧used cur=jg old:=by
 have h1:=h.has;have h2:=h.nf;have h3:=h.nu
 rw [List.take_length]at h1 h2 h3
 exact ⟨h.good,h1,h2,h3⟩
end
end Go.Tab
namespace Go.Sl
open Go
abbrev Hp:Type:=Nat→Option Obj
def aC:Type:=Hp→Prop
def Hp.Ed (a b:Hp):Prop:=∀ i,a i=none∨b i=none
def Hp.join (a b:Hp):Hp:=fun i=>(a i).or (b i)
theorem aC.ext {A B:aC} (h:∀ x,A x↔B x):A=B:=funext fun x=>propext (h x)
def emp:aC:=fun h=>h=fun _=>none
def star (A B:aC):aC:=fun h=>∃ a b,Hp.Ed a b∧h=Hp.join a b∧A a∧B b
def pt (b:Nat) (o:Obj):aC:=fun h=>h=fun i=>if i=b then some o else none
def ex {α:Type} (A:α→aC):aC:=fun h=>∃ x,A x h
theorem Hp.YS {a b:Hp} (h:a.Ed b):b.Ed a:=fun i=>(h i).symm
theorem Hp.join_comm {a b:Hp} (h:a.Ed b):a.join b=b.join a:=by
 funext i
 rcases h i with h|h <;> simp [Hp.join,h]
theorem Hp.join_assoc (a b c:Hp):(a.join b).join c=a.join (b.join c):=by
 funext i;simp [Hp.join,Option.or_assoc]
theorem FD (A B:aC):star A B=star B A:=by
 apply aC.ext;intro h
 constructor <;> (rintro ⟨a,b,d,rfl,ha,hb⟩;exact ⟨b,a,Hp.YS d,Hp.join_comm d,hb,ha⟩)
theorem FC (A B C:aC):star (star A B) C=star A (star B C):=by
 apply aC.ext;intro h
 constructor
 ·rintro ⟨ab,c,d,rfl,⟨a,b,d',rfl,ha,hb⟩,hc⟩
  refine ⟨a,b.join c,?_,Hp.join_assoc _ _ _,ha,⟨b,c,?_,rfl,hb,hc⟩⟩
  ·intro i
   have h1:=d i;have h2:=d' i
   simp only [Hp.join,Option.or_eq_none_iff]at *
   cases h:a i <;> simp_all
  ·intro i
   have h1:=d i
   simp only [Hp.join,Option.or_eq_none_iff]at *
   exact h1.imp (·.2) id
 ·rintro ⟨a,bc,d,rfl,ha,⟨b,c,d',rfl,hb,hc⟩⟩
  refine ⟨a.join b,c,?_,(Hp.join_assoc _ _ _).symm,⟨a,b,?_,rfl,ha,hb⟩,hc⟩
  ·intro i
   have h1:=d i;have h2:=d' i
   simp only [Hp.join,Option.or_eq_none_iff]at *
   cases h:c i <;> simp_all
  ·intro i
   have h1:=d i
   simp only [Hp.join,Option.or_eq_none_iff]at *
   exact h1.imp id (·.1)
theorem Df (A B C:aC):star A (star B C)=star B (star A C):=by
 rw [← FC,FD A B,FC]
theorem Io (A:aC):star emp A=A:=by
 apply aC.ext;intro h
 constructor
 ·rintro ⟨a,b,_,rfl,ha,hb⟩
  have:Hp.join a b=b:=by funext i;rw [show a=_ from ha];simp [Hp.join]
  rw [this];exact hb
 ·intro hh
  exact ⟨fun _=>none,h,fun _=> .inl rfl,by funext i;simp [Hp.join],rfl,hh⟩
theorem afD (A:aC):star A emp=A:=by rw [FD,Io]
def stars:List aC→aC
 |[]=>emp
 |A::L=>star A (stars L)
theorem o8 (A:aC) (L:List aC):stars (A::L)=star A (stars L):=rfl
theorem pX:∀ L M:List aC,stars (L++M)=star (stars L) (stars M)
 |[],M=>(Io _).symm
 |A::L,M=>by rw [List.cons_append,o8,pX L M,o8,FC]
theorem afE {L M:List aC} (h:L.Perm M):stars L=stars M:=by
 induction h with
 |nil=>rfl
 |cons x _ ih=>rw [o8,o8,ih]
 |swap x y l=>rw [o8,o8,o8,o8,Df]
 |trans _ _ ih1 ih2=>exact ih1.trans ih2
theorem FH (A:aC):stars [A]=A:=afD A
def aX (A B:aC):Prop:=∀ h,A h→B h
theorem aX.refl (A:aC):aX A A:=fun _ h=>h
theorem aX.star {A B C D:aC} (h:aX A C) (k:aX B D):aX (star A B) (star C D):=
 fun _ ⟨a,b,d,e,ha,hb⟩=>⟨a,b,d,e,h a ha,k b hb⟩
theorem aX.of_eq {A B:aC} (h:A=B):aX A B:=h ▸ aX.refl _
theorem aX.left {A B C:aC} (h:aX A B):aX (Sl.star A C) (Sl.star B C):=h.star (aX.refl _)
theorem O5 {α:Type} (A:α→aC) (B:aC):star (ex A) B=ex fun x=>star (A x) B:=by
 apply aC.ext;intro h
 constructor
 ·rintro ⟨a,b,d,e,⟨x,ha⟩,hb⟩;exact ⟨x,a,b,d,e,ha,hb⟩
 ·rintro ⟨x,a,b,d,e,ha,hb⟩;exact ⟨a,b,d,e,⟨x,ha⟩,hb⟩
structure Anch (w0 w:World):Prop where
 os:w.os=w0.os
 tape:w.tape=w0.tape
 output:w.output=w0.output
 size:w0.heap.size≤w.heap.size
theorem Anch.refl (w:World):Anch w w:=⟨rfl,rfl,rfl,Nat.le_refl _⟩
def Sat (w0 w:World) (L:List aC):Prop:=Anch w0 w∧∃ h:Hp,(∀ i o,h i=some o→w.heap[i]?=some o)∧stars L h
section
variable {w0 w:World}{A B C D E G:aC}{L M F R:List aC}
theorem Sat.mono (h:Sat w0 w L) (k:aX (stars L) (stars M)):Sat w0 w M:=⟨h.1,h.2.imp fun x hx=>⟨hx.1,k x hx.2⟩⟩
theorem Sat.perm (h:Sat w0 w L) (k:L.Perm M):Sat w0 w M:=h.mono (aX.of_eq (afE k))
theorem Sat.head (h:Sat w0 w (A::R)) (k:aX A B):Sat w0 w (B::R):=h.mono k.left
theorem Sat.split (h:Sat w0 w (A::R)) (k:aX A (stars M)):Sat w0 w (M++R):=
 h.mono (fun x hx=>by rw [pX];exact k.left x hx)
theorem Sat.join (h:Sat w0 w (M++R)) (k:aX (stars M) A):Sat w0 w (A::R):=
 h.mono (fun x hx=>by rw [pX]at hx;exact k.left x hx)
theorem Sat.drop (h:Sat w0 w (A::R)):Sat w0 w R:=by
 obtain ⟨ha,x,hx,a,b,d,rfl,pa,pb⟩:=h
 refine ⟨ha,b,fun i o hi=>hx i o ?_,pb⟩
 simp only [Hp.join]
 rcases d i with h1|h1
 ·simp [h1,hi]
 ·simp [h1]at hi
theorem Sat.aP (h:Sat w0 w (A::B::R)):Sat w0 w (B::A::R):=h.perm (List.Perm.swap _ _ _)
theorem Sat.dM (h:Sat w0 w (A::B::C::R)):Sat w0 w (C::A::B::R):=
 h.perm (((List.Perm.swap C B R).cons A).trans (List.Perm.swap C A _))
theorem Sat.iy (h:Sat w0 w (A::B::C::D::R)):Sat w0 w (D::A::B::C::R):=
 h.perm ((((List.Perm.swap D C R).cons B).cons A).trans (((List.Perm.swap D B _).cons A).trans (List.Perm.swap D A _)))
theorem Sat.ny (h:Sat w0 w (A::B::C::D::E::R)):Sat w0 w (E::A::B::C::D::R):=
 (h.perm ((((List.Perm.swap E D R).cons C).cons B).cons A)).iy
theorem Sat.Tc (h:Sat w0 w (B::A::R)):Sat w0 w (A::B::R):=h.aP
theorem Sat.ex {α:Type}{A:α→aC}:Sat w0 w (Sl.ex A::R)↔∃ x,Sat w0 w (A x::R):=by
 constructor
 ·rintro ⟨ha,x,hx,hA⟩
  rw [o8,O5]at hA
  obtain ⟨y,hA⟩:=hA
  exact ⟨y,ha,x,hx,hA⟩
 ·rintro ⟨y,ha,x,hx,hA⟩
  refine ⟨ha,x,hx,?_⟩
  rw [o8,O5]
  exact ⟨y,hA⟩
theorem Sat.emp:Sat w0 w (Sl.emp::R)↔Sat w0 w R:=by
 unfold Sat;rw [o8,Io]
theorem Sat.star:Sat w0 w (Sl.star A B::R)↔Sat w0 w (A::B::R):=by
 unfold Sat;rw [o8,o8,o8,FC]
variable {b:Nat}{o:Obj}
theorem Sat.at (h:Sat w0 w (pt b o::R)):w.heap[b]?=some o:=by
 obtain ⟨_,x,hx,a,c,d,rfl,pa,_⟩:=h
 refine hx b o ?_
 rw [show a=_ from pa]
 simp [Hp.join]
theorem Sat.lt (h:Sat w0 w (pt b o::R)):b<w.heap.size:=by
 have:=h.at
 rw [Array.getElem?_eq_some_iff]at this
 exact this.1
theorem Sat.ne {b':Nat}{o':Obj} (h:Sat w0 w (pt b o::pt b' o'::R)):b≠b':=by
 obtain ⟨_,x,hx,a,c,d,rfl,pa,a',c',d',rfl,pa',_⟩:=h
 intro e
 subst e
 rcases d b with h1|h1
 ·rw [show a=_ from pa]at h1;simp at h1
 ·rw [show a'=_ from pa']at h1;simp [Hp.join]at h1
theorem Sat.turn {w':World}{o':Obj} (h:Sat w0 w (pt b o::R)) (ho:w'.os=w.os) (ht:w'.tape=w.tape) (hu:w'.output=w.output)
  (hz:w.heap.size≤w'.heap.size) (hb:w'.heap[b]?=some o') (hr:∀ i,i≠b→i<w.heap.size→w'.heap[i]?=w.heap[i]?):Sat w0 w' (pt b o'::R):=by
 obtain ⟨ha,x,hx,a,c,d,rfl,pa,pr⟩:=h
 rw [show a=_ from pa]at hx d
 refine ⟨⟨ho.trans ha.os,ht.trans ha.tape,hu.trans ha.output,Nat.le_trans ha.size hz⟩,Hp.join (fun i=>if i=b then some o' else none) c,?_,_,c,?_,rfl,rfl,pr⟩
 ·intro i y hy
  by_cases hi:i=b
  ·subst hi
   simp [Hp.join]at hy
   subst hy
   exact hb
  ·simp [Hp.join,hi]at hy
   have:=hx i y (by simp [Hp.join,hi,hy])
   rw [hr i hi,this]
   rw [Array.getElem?_eq_some_iff]at this
   exact this.1
 ·intro i
  have:=d i
  by_cases hi:i=b <;> simp_all
theorem Sat.fresh {w':World} (h:Sat w0 w R) (ho:w'.os=w.os) (ht:w'.tape=w.tape) (hu:w'.output=w.output)
  (hz:w.heap.size≤w'.heap.size) (hbn:w.heap.size≤b) (hb:w'.heap[b]?=some o) (hr:∀ i,i<w.heap.size→w'.heap[i]?=w.heap[i]?):Sat w0 w' (pt b o::R):=by
 obtain ⟨ha,x,hx,pr⟩:=h
 have hn:x b=none:=by
  cases hh:x b with
  |none=>rfl
  |some y=>
   have:=hx _ _ hh
   rw [Array.getElem?_eq_some_iff]at this
   have:=this.1
   omega
 refine ⟨⟨ho.trans ha.os,ht.trans ha.tape,hu.trans ha.output,Nat.le_trans ha.size hz⟩,Hp.join (fun i=>if i=b then some o else none) x,?_,_,x,?_,rfl,rfl,pr⟩
 ·intro i y hy
  by_cases hi:i=b
  ·subst hi
   simp [Hp.join]at hy
   subst hy
   exact hb
  ·simp [Hp.join,hi]at hy
   have:=hx i y hy
   rw [hr i,this]
   rw [Array.getElem?_eq_some_iff]at this
   exact this.1
 ·intro i
  by_cases hi:i=b <;> simp_all
theorem Sat.alloc (h:Sat w0 w R) (o:Obj):Sat w0 (w.alloc o) (pt w.heap.size o::R):=
 h.fresh rfl rfl rfl (by simp) (Nat.le_refl _) (heap_alloc_new w o) (fun i hi=>RowKit.Below.heap_alloc w o i hi)
theorem Sat.drew (h:Sat w0 w R):Sat w0 w.drew R:=⟨⟨h.1.os,h.1.tape,h.1.output,h.1.size⟩,h.2⟩
theorem Sat.cellAt {cs:Array Value}{T:TypeId} (h:Sat w0 w (pt b (.cells cs T (0,0))::R)) (i:Nat) (v:Value) (hv:cs[i]?=some v):w.cell? ⟨b,i,none⟩=some v:=by
 have:=h.at
 simp [World.cell?,this,hv]
theorem Sat.nY {cs:Array Value}{T:TypeId} (h:Sat w0 w (pt b (.cells cs T (0,0))::R)) (i:Nat):w.frozen? ⟨b,i,none⟩=false:=by
 have:=h.at
 simp [World.frozen?,this]
theorem Sat.set {cs:Array Value}{T:TypeId} (h:Sat w0 w (pt b (.cells cs T (0,0))::R)) (i:Nat) (v:Value):Sat w0 (w.setCell ⟨b,i,none⟩ v) (pt b (.cells (cs.setIfInBounds i v) T (0,0))::R):=by
 have hb:=h.at
 have hlt:=h.lt
 refine h.turn rfl rfl rfl (by simp) ?_ ?_
 ·simp only [World.setCell,Array.getElem?_modify,if_true,hb]
  simp
 ·intro j hj _
  simp only [World.setCell,Array.getElem?_modify]
  rw [if_neg (Ne.symm hj)]
theorem ae6 (L:List aC) (k:Nat) (idx:List Nat) (hk:(L.take k).length=k) (hi:(idx.all (fun i=>decide (i<k)) && decide idx.Nodup)=true) :
  ∃ rest,L.Perm ((idx.map (fun i=>L.getD i Sl.emp)++L.drop k)++rest):=by
 simp only [Bool.and_eq_true,List.all_eq_true,decide_eq_true_eq]at hi
 obtain ⟨h1,h2⟩:=hi
 have hrk:L.take k=(List.range k).map (fun i=>L.getD i Sl.emp):=by
  apply List.ext_getElem?
  intro i
  rw [List.getElem?_take,List.getElem?_map]
  by_cases hik:i<k
  ·have:i<L.length:=by
    have:=List.length_take_le' k L
    rw [hk]at this;omega
   simp [hik,List.getD_eq_getElem?_getD,this]
  ·simp [hik]
 have hp:(List.range k).Perm (idx++(List.range k).filter fun i => !idx.contains i):=by
  rw [List.perm_ext_iff_of_nodup List.nodup_range]
  ·intro a
   simp only [List.mem_range,List.mem_append,List.mem_filter,Bool.not_eq_true',List.contains_eq_mem,decide_eq_false_iff_not]
   constructor
   ·intro h;by_cases ha:a∈idx
    ·exact .inl ha
    ·exact .inr ⟨h,ha⟩
   ·rintro (h|h)
    ·exact h1 a h
    ·exact h.1
  ·rw [List.nodup_append]
   refine ⟨h2,List.nodup_range.sublist List.filter_sublist,?_⟩
   intro a ha b hb e
   subst e
   have:=(List.mem_filter.1 hb).2
   simp [ha]at this
 refine ⟨((List.range k).filter fun i => !idx.contains i).map (fun i=>L.getD i Sl.emp),?_⟩
 have h3:L=L.take k++L.drop k:=(List.take_append_drop k L).symm
 rw [hrk]at h3
 have h4:=(hp.map (fun i=>L.getD i Sl.emp)).append_right (L.drop k)
 rw [List.map_append]at h4
 have h5:L.Perm _:=(List.Perm.of_eq h3).trans h4
 refine h5.trans ?_
 rw [List.append_assoc,List.append_assoc]
 exact List.Perm.append_left _ List.perm_append_comm
theorem Sat.OH (h:Sat w0 w (L++M)):Sat w0 w L:=by
 obtain ⟨ha,x,hx,hs⟩:=h
 rw [pX]at hs
 obtain ⟨a,b,d,rfl,pa,pb⟩:=hs
 refine ⟨ha,a,fun i o hi=>hx i o ?_,pa⟩
 simp [Hp.join,hi]
theorem Sat.sel (h:Sat w0 w L) (k:Nat) (idx:List Nat) (hk:(L.take k).length=k) (hi:(idx.all (fun i=>decide (i<k)) && decide idx.Nodup)=true) :
  Sat w0 w (idx.map (fun i=>L.getD i Sl.emp)++L.drop k):=by
 obtain ⟨rest,hp⟩:=ae6 L k idx hk hi
 exact (h.perm hp).OH
def Ro (w0:World) (L:List aC) (p:World→Prop):Prop:=∀ w,Sat w0 w L→p w
theorem Ro.cons {p:World→Prop} (h:Ro w0 L p):Ro w0 (A::L) p:=fun w hw=>h w hw.drop
def old (w0:World):aC:=fun h=>h=fun i=>w0.heap[i]?
theorem Sat.old (h:Sat w0 w (old w0::R)){i:Nat} (hi:i<w0.heap.size):w.heap[i]?=w0.heap[i]?:=by
 obtain ⟨_,x,hx,a,c,d,rfl,pa,_⟩:=h
 have:w0.heap[i]?=some (w0.heap[i]):=by simp [hi]
 rw [this]
 refine hx i _ ?_
 rw [show a=_ from pa]
 simp [Hp.join,hi]
theorem Sat.start (w0:World):Sat w0 w0 [Sl.old w0]:=by
 refine ⟨Anch.refl _,fun i=>w0.heap[i]?,fun i o h=>h,?_⟩
 rw [FH]
 exact rfl
theorem Sat.below (h:Sat w0 w (Sl.old w0::R)):RowKit.Below w0.heap.size w0 w:=
 ⟨h.1.os,h.1.tape,h.1.output,h.1.size,fun k hk=>h.old hk⟩
end
end Go.Sl
namespace Go.Sl
open Go Go.MapKept
def aI (Q:Value→World→Prop) (e:Ending) (w:World):Prop:=∃ v,e = .returned v∧Q v w
def bK (sz:Nat) (v:Value) (xs:List Value) (w:World):Prop:=
 ∃ a n cap,v = .slice a n cap∧xs.length=n * sz∧∀ i x,xs[i]?=some x→∃ b,a=some b∧w.cell? (b.add i)=some x
def aF (T sz:Nat) (v:Value) (xs:List Value):aC:=fun h=>
 (v = .slice none 0 0∧xs=[]∧emp h) ∨
 ∃ b n cap cs,v = .slice (some ⟨b,0,none⟩) n cap∧xs.length=n * sz∧n≤cap∧cap * sz≤cs.size∧cap≤maxLen∧cs.toList.take (n * sz)=xs∧pt b (.cells cs T (0,0)) h
section
variable {w0 w:World}{R L:List aC}{T sz:Nat}{v:Value}{xs:List Value}
theorem fM (T sz:Nat):aF T sz (.slice none 0 0) []=emp:=by
 apply aC.ext;intro h
 constructor
 ·rintro (⟨_,_,h⟩|⟨b,n,cap,cs,he,_⟩)
  ·exact h
  ·cases he
 ·intro h;exact .inl ⟨rfl,rfl,h⟩
theorem Sat.fM:Sat w0 w (aF T sz (.slice none 0 0) []::R)↔Sat w0 w R:=by
 rw [Sl.fM];exact Sat.emp
theorem Sat.jV {b n cap:Nat}{cs:Array Value} (h:Sat w0 w (pt b (.cells cs T (0,0))::R)) (hl:xs.length=n * sz) (hn:n≤cap) (hc:cap * sz≤cs.size) (hm:cap≤maxLen)
  (ht:cs.toList.take (n * sz)=xs):Sat w0 w (aF T sz (.slice (some ⟨b,0,none⟩) n cap) xs::R):=
 h.head fun _ hx=> .inr ⟨b,n,cap,cs,rfl,hl,hn,hc,hm,ht,hx⟩
theorem Sat.jR (h:Sat w0 w (aF T sz v xs::R)):(v = .slice none 0 0∧xs=[]∧Sat w0 w R) ∨
  ∃ b n cap cs,v = .slice (some ⟨b,0,none⟩) n cap∧xs.length=n * sz∧n≤cap∧cap * sz≤cs.size∧cap≤maxLen∧cs.toList.take (n * sz)=xs∧Sat w0 w (pt b (.cells cs T (0,0))::R):=by
 obtain ⟨ha,x,hx,p,q,d,rfl,hp,hq⟩:=h
 rcases hp with ⟨h1,h2,h3⟩|⟨b,n,cap,cs,h1,h2,h3,h4,h5,h6,h7⟩
 ·refine .inl ⟨h1,h2,ha,q,fun i o hi=>hx i o ?_,hq⟩
  rw [show p=_ from h3];simp [Hp.join,hi]
 ·exact .inr ⟨b,n,cap,cs,h1,h2,h3,h4,h5,h6,ha,_,hx,p,q,d,rfl,h7,hq⟩
theorem pG (b j:Nat):(⟨b,0,none⟩:Addr).add j=⟨b,j,none⟩:=by unfold Addr.add;split <;> simp_all
theorem pY {cs:Array Value}{k:Nat} (ht:cs.toList.take k=xs){i:Nat}{x:Value} (hi:xs[i]?=some x):cs[i]?=some x:=by
 rw [← ht,List.getElem?_take]at hi
 split at hi
 ·simpa using hi
 ·cases hi
theorem Sat.rd (h:Sat w0 w (aF T sz v xs::R)):bK sz v xs w:=by
 rcases h.jR with ⟨rfl,rfl,_⟩|⟨b,n,cap,cs,rfl,hl,hn,hc,hm,ht,hp⟩
 ·exact ⟨none,0,0,rfl,by simp,by simp⟩
 ·refine ⟨some ⟨b,0,none⟩,n,cap,rfl,hl,fun i x hi=>⟨_,rfl,?_⟩⟩
  rw [pG]
  exact hp.cellAt i x (pY ht hi)
theorem Ky (sz cap:Nat) (w:World):bK sz (.slice none 0 cap) [] w:=⟨none,0,cap,rfl,by simp,by simp⟩
theorem bK.len (h:bK sz v xs w):∃ a n cap,v = .slice a n cap∧xs.length=n * sz:=by
 obtain ⟨a,n,cap,h1,h2,_⟩:=h;exact ⟨a,n,cap,h1,h2⟩
end
section
variable {P:Program}{w0 w:World}{R:List aC}{sz:Nat}{v x:Value}{xs ys:List Value}
theorem aed (t ty e:TypeId) (i:TypeInfo) (z:Value) (ht:P.underlying t=some (.slice e)) (hi:P.info? e=some i) (hz:i.zero=some z)
  (hs:i.size=sz) (hzs:z.cells.size=sz) (hsz:0<sz) (h1:∀ u∈ys,u.oneCell'=true)
  (h:Sat w0 w (aF e sz v xs::R)) (hx:bK sz x ys w) (h63:xs.length+ys.length≤maxLen) (hby:(xs.length+ys.length) * i.bytes≤140737488355328) :
  ∃ v' w',(Builtin.append_ #[t,t] ty #[v,x]).run P w = .ok v' w'∧Sat w0 w' (aF e sz v' (xs++ys)::R)∧(xs++ys≠[]→∃ b n c,v' = .slice (some ⟨b,0,none⟩) n c):=by
 subst hs
 obtain ⟨xa,m,c,rfl,hyl,BZ⟩:=hx
 have hle:∀ {p q:Nat},p=q * i.size→q≤p:=fun {p q} e=>by rw [e];exact Nat.le_mul_of_pos_right _ hsz
 have hm:=hle hyl
 by_cases hm0:m=0
 ·subst hm0
  obtain rfl:ys=[]:=List.eq_nil_of_length_eq_zero (by simpa using hyl)
  rcases h.jR with ⟨rfl,rfl,h'⟩|⟨b,n,cap,cs,rfl,hl,hn,hc,hcm,htk,hp⟩
  ·refine ⟨.slice none 0 0,w,?_,by simpa using h,by simp⟩
   cases xa <;> simp [Builtin.append_,run_underlying ht,sizeOf,typeInfo,hi,Builtin.lenOf,Builtin.firstCells,loadCells,loadCellsFrom]
  ·refine ⟨.slice (some ⟨b,0,none⟩) n cap,w,?_,by simpa using h,fun _=>⟨_,_,_,rfl⟩⟩
   cases xa <;> simp [Builtin.append_,run_underlying ht,sizeOf,typeInfo,hi,Builtin.lenOf,Builtin.firstCells,loadCells,loadCellsFrom,hn,storeCells]
 ·have hy0:ys≠[]:=by
   intro e;subst e
   have:m * i.size=0:=by simpa using hyl.symm
   rcases Nat.mul_eq_zero.1 this with h|h <;> omega
  obtain ⟨ad,rfl⟩:∃ ad,xa=some ad:=by
   obtain ⟨y,hy⟩:∃ y,ys[0]?=some y:=by
    cases ys with
    |nil=>exact absurd rfl hy0
    |cons y _=>exact ⟨y,rfl⟩
   obtain ⟨b,hb,_⟩:=BZ 0 y hy
   exact ⟨b,hb⟩
  have hnews:∀ j u,ys[j]?=some u→w.cell? (ad.add j)=some u:=fun j u hj=>by
   obtain ⟨b,hb,hx⟩:=BZ j u hj
   cases hb;exact hx
  have h63':maxLen=9223372036854775807:=rfl
  have grown:∀ (n old:Nat) (_:n * i.size=xs.length) (_:old<n+m) (_:Sat w0 w R),Sat w0 (w.drew.alloc (.cells (xs.toArray++ys.toArray++Builtin.zeroCells z.cells (grownCap w (n+m) old e - (n+m))) e))
    (aF e i.size (.slice (some ⟨w.heap.size,0,none⟩) (n+m) (grownCap w (n+m) old e)) (xs++ys)::R):=by
   intro n old hn ho hR
   have hge:=grownCap_ge w (n+m) old e
   have hnx:=hle hn.symm
   have hcm:=grownCap_le_maxLen w (n+m) old e oQ
   have:=(hR.drew).alloc (.cells (xs.toArray++ys.toArray++Builtin.zeroCells z.cells (grownCap w (n+m) old e - (n+m))) e)
   refine Sat.jV this ?_ hge ?_ hcm ?_
   ·rw [List.length_append,← hn,hyl,Nat.add_mul]
   ·simp only [Array.size_append,List.size_toArray,size_zeroCells,hzs]
    rw [← hn,hyl,← Nat.add_mul,← Nat.add_mul]
    exact Nat.mul_le_mul_right _ oQ
   ·simp only [Array.toList_append,List.append_assoc]
    rw [← List.append_assoc]
    have e1:(n+m) * i.size=(xs++ys).length:=by rw [List.length_append,← hn,hyl,Nat.add_mul]
    rw [e1]
    exact List.take_left
  rcases h.jR with ⟨rfl,rfl,h'⟩|⟨b,n,cap,cs,rfl,hl,hn,hc,hcm,htk,hp⟩
  ·have Ey:m * i.bytes≤140737488355328:=by
    refine Nat.le_trans (Nat.mul_le_mul_right _ ?_) hby
    simp;omega
   have hr:=run_append_nil (P:=P) w t ty e i z ht hi hz ad m c ys hyl hnews oQ (by simp at h63;omega) oQ
   have hg:=grown 0 0 (by simp) oQ h'
   simp only [Nat.zero_add,List.nil_append,Array.empty_append]at hg ⊢
   exact ⟨_,_,hr,hg,fun _=>⟨_,_,_,rfl⟩⟩
  ·by_cases hroom:n+m≤cap
   ·have hfit:n * i.size+ys.length≤cs.size:=by
     rw [hyl,← Nat.add_mul];exact Nat.le_trans (Nat.mul_le_mul_right _ hroom) hc
    have hr:=run_append_room (P:=P) w t ty e i ht hi b n cap cs hp.at ad m c ys hyl hnews h1 hroom hfit
    refine ⟨_,_,hr,?_,fun _=>⟨_,_,_,rfl⟩⟩
    have aaz:=hp.turn (w':=w.setRow b (cs.toList.take (n * i.size)++ys++cs.toList.drop (n * i.size+ys.length)).toArray) rfl rfl rfl (by simp) (setRow_heap w b cs _ e _ hp.at) (fun j hj _=>setRow_other w b j _ hj)
    refine Sat.jV aaz ?_ hroom ?_ hcm ?_
    ·rw [List.length_append,hl,hyl,Nat.add_mul]
    ·simp only [List.size_toArray,List.length_append,List.length_take,List.length_drop,Array.length_toList]
     omega
    ·rw [htk]
     have e1:(n+m) * i.size=(xs++ys).length:=by rw [List.length_append,hl,hyl,Nat.add_mul]
     rw [e1]
     exact List.take_left
   ·have holds:∀ j u,xs[j]?=some u→w.cell? ((⟨b,0,none⟩:Addr).add j)=some u:=fun j u hj=>by
     rw [pG];exact hp.cellAt j u (pY htk hj)
    have hnx:=hle hl
    have Ey:(n+m) * i.bytes≤140737488355328:=Nat.le_trans (Nat.mul_le_mul_right _ oQ) hby
    have hr:=run_append_grow (P:=P) w t ty e i z ht hi hz ⟨b,0,none⟩ n cap xs hl holds ad m c ys hyl hnews oQ oQ (growslice_fits oQ Ey)
    exact ⟨_,_,hr,grown n cap hl.symm oQ hp.drop,fun _=>⟨_,_,_,rfl⟩⟩
theorem LG {o:Oper}{a:Act}{K:Act→World→Prop}{Q:Exit→Act→World→Prop} (s y:Operand) (t:TypeId)
  (ho:o.op = .call { callee:= .builtin .append,args:=#[s,y],argTypes:=#[t,t] })
  (e:TypeId) (i:TypeInfo) (z:Value) (ht:P.underlying t=some (.slice e)) (hi:P.info? e=some i) (hz:i.zero=some z)
  (hs:i.size=sz) (hzs:z.cells.size=sz) (hsz:0<sz) (hv:a.eval s=v) (hxv:a.eval y=x) (h1:∀ u∈ys,u.oneCell'=true)
  (h:Sat w0 w (aF e sz v xs::R)) (hx:bK sz x ys w) (h63:xs.length+ys.length≤maxLen) (hby:(xs.length+ys.length) * i.bytes≤140737488355328)
  (hK:∀ v' w',Sat w0 w' (aF e sz v' (xs++ys)::R)→(xs++ys≠[]→∃ b n c,v' = .slice (some ⟨b,0,none⟩) n c)→K (a.put o.dst v') w'):o.wp P a w K Q:=by
 obtain ⟨v',w',hr,h2,h3⟩:=aed (P:=P) t o.type e i z ht hi hz hs hzs hsz h1 h hx h63 hby
 unfold Oper.wp execOp
 simp only [ho,resolve,invoke,builtin,Sem.run_bind,Sem.run_pure,Result.andThen_ok,List.map_toArray,List.map_cons,List.map_nil,hv,hxv,hr]
 exact hK v' w' h2 h3
theorem yN {ops:Array Oper}{rest:List Oper}{o:Oper}{a:Act}{Q:Exit→Act→World→Prop} (hgd:o.guard=none) (s y:Operand) (t:TypeId)
  (ho:o.op = .call { callee:= .builtin .append,args:=#[s,y],argTypes:=#[t,t] })
  (e:TypeId) (i:TypeInfo) (z:Value) (ht:P.underlying t=some (.slice e)) (hi:P.info? e=some i) (hz:i.zero=some z)
  (hs:i.size=sz) (hzs:z.cells.size=sz) (hsz:0<sz) (hv:a.eval s=v) (hxv:a.eval y=x) (h1:∀ u∈ys,u.oneCell'=true)
  (h:Sat w0 w (aF e sz v xs::R)) (hx:bK sz x ys w) (h63:xs.length+ys.length≤maxLen) (hby:(xs.length+ys.length) * i.bytes≤140737488355328)
  (hK:∀ v' w',Sat w0 w' (aF e sz v' (xs++ys)::R)→(xs++ys≠[]→∃ b n c,v' = .slice (some ⟨b,0,none⟩) n c)→wpList P ops Q rest (a.put o.dst v') w'):wpList P ops Q (o::rest) a w:=
 wpList_plain hgd fun _ hK'=>LG s y t ho e i z ht hi hz hs hzs hsz hv hxv h1 h hx h63 hby fun v' w' h2 h3=>hK' _ _ (hK v' w' h2 h3)
end
theorem step_append {P:Program}{w0 w:World}{R:List aC}{sz:Nat}{v x:Value}{xs ys:List Value}{ops:Array Oper}{o:Oper}{a:Act}{K:Act→World→Prop}{Q:Exit→Act→World→Prop}{E:Prop} (hgd:o.guard=none) (s y:Operand) (t:TypeId)
  (ho:o.op = .call { callee:= .builtin .append,args:=#[s,y],argTypes:=#[t,t] })
  (e:TypeId) (i:TypeInfo) (z:Value) (ht:P.underlying t=some (.slice e)) (hi:P.info? e=some i) (hz:i.zero=some z)
  (hs:i.size=sz) (hzs:z.cells.size=sz) (hsz:0<sz) (hv:a.eval s=v) (hxv:a.eval y=x) (h1:∀ u∈ys,u.oneCell'=true)
  (h:Sat w0 w (aF e sz v xs::R)) (hx:bK sz x ys w) (h63:xs.length+ys.length≤maxLen) (hby:(xs.length+ys.length) * i.bytes≤140737488355328)
  (hK:∀ v' w',Sat w0 w' (aF e sz v' (xs++ys)::R)→(xs++ys≠[]→∃ b n c,v' = .slice (some ⟨b,0,none⟩) n c)→K (a.put o.dst v') w') :
  if Region.wanted o (yielded ops a.tmps)=true then Oper.wp P o a w K Q else E:=by
 have hw:Region.wanted o (yielded ops a.tmps)=true:=by simp [Region.wanted,hgd]
 rw [if_pos hw]
 exact LG s y t ho e i z ht hi hz hs hzs hsz hv hxv h1 h hx h63 hby hK
theorem yE (w:World) (cs:Array Value) (T sz n c:Nat) (hn:cs.size=n * sz):bK sz (.slice (some ⟨w.heap.size,0,none⟩) n c) cs.toList (w.alloc (.cells cs T)):=
 ⟨_,n,c,rfl,by simpa using hn,fun i x hi=>⟨_,rfl,by rw [pG,World.cell?_alloc_new];simpa using hi⟩⟩
def omap (d:TypeDesc) (b:Nat) (l:List (Value×Value)):aC:=fun h=>
 ∃ es clock,(es.toList.map fun e=>(e.key,e.val)).Perm l∧Stamped es clock∧(∀ x∈es.toList,IsKey d x.key)∧pt b (.map es clock) h
section
variable {P:Program}{w0 w:World}{R:List aC}{d:TypeDesc}{b:Nat}{l l':List (Value×Value)}
theorem ET (hp:l.Perm l'):omap d b l=omap d b l':=by
 apply aC.ext;intro h
 exact ⟨fun ⟨es,c,h1,h2⟩=>⟨es,c,h1.trans hp,h2⟩,fun ⟨es,c,h1,h2⟩=>⟨es,c,h1.trans hp.symm,h2⟩⟩
theorem Sat.ET (h:Sat w0 w (omap d b l::R)) (hp:l.Perm l'):Sat w0 w (omap d b l'::R):=Sl.ET hp ▸ h
theorem Sat.zM (h:Sat w0 w (omap d b l::R)):∃ es clock,(es.toList.map fun e=>(e.key,e.val)).Perm l∧Stamped es clock∧(∀ x∈es.toList,IsKey d x.key)∧Sat w0 w (pt b (.map es clock)::R):=by
 obtain ⟨ha,x,hx,p,q,dd,rfl,⟨es,c,h1,h2,h3,h4⟩,hq⟩:=h
 exact ⟨es,c,h1,h2,h3,ha,_,hx,p,q,dd,rfl,h4,hq⟩
theorem Sat.zN {es:Array MapEntry}{clock:Nat} (h:Sat w0 w (pt b (.map es clock)::R)) (h1:(es.toList.map fun e=>(e.key,e.val)).Perm l) (h2:Stamped es clock) (h3:∀ x∈es.toList,IsKey d x.key):Sat w0 w (omap d b l::R):=
 h.head fun _ hx=>⟨es,clock,h1,h2,h3,hx⟩
theorem Sat.ER (h:Sat w0 w (omap d b l::R)):(l.map (·.1)).Nodup:=by
 obtain ⟨es,c,h1,h2,h3,h4⟩:=h.zM
 have:=(h1.map (·.1)).nodup_iff.1 (by rw [List.map_map];exact h2.2.2)
 exact this
theorem Sat.ES (h:Sat w0 w R) (d:TypeDesc):Sat w0 (w.alloc (.map #[] 0)) (omap d w.heap.size []::R):=
 (h.alloc _).zN (by simp) (stamped_empty 0) (by simp)
variable {mty kt et:TypeId}{key:Value}
theorem Ug (hm:P.underlying mty=some (.map kt et)) (hd:P.underlying kt=some d){z:Value} (hz:(zeroValue et).run P w = .ok z w) (hk:IsKey d key) (h:Sat w0 w (omap d b l::R)) :
  (∃ v,(key,v)∈l∧(Instr.lookup mty (.map (some b)) key false).run P w = .ok v w∧(Instr.lookup mty (.map (some b)) key true).run P w = .ok (.tuple #[v,.bool true]) w) ∨
  ((∀ p∈l,p.1≠key)∧(Instr.lookup mty (.map (some b)) key false).run P w = .ok z w∧(Instr.lookup mty (.map (some b)) key true).run P w = .ok (.tuple #[z,.bool false]) w):=by
 obtain ⟨es,c,h1,h2,h3,h4⟩:=h.zM
 have hb:=h4.at
 rcases findNow_spec hk es.toList 0 h3 with ⟨f1,f2⟩|⟨j,e,f1,f2,f3⟩
 ·refine .inr ⟨?_,?_,?_⟩
  ·intro p hp e
   have:=(h1.mem_iff.2 hp)
   obtain ⟨x,hx,hxe⟩:=List.mem_map.1 this
   refine f2 x hx ?_
   rw [← e,← hxe]
  ·simp [Instr.lookup,run_underlying hm,MapKept.run_getObj_map hb,MapKept.run_checkKey hd hk,MapKept.run_findKey hd f1,Result.andThen,hz]
  ·simp [Instr.lookup,run_underlying hm,MapKept.run_getObj_map hb,MapKept.run_checkKey hd hk,MapKept.run_findKey hd f1,Result.andThen,hz]
 ·refine .inl ⟨e.val,?_,?_,?_⟩
  ·refine h1.mem_iff.1 (List.mem_map.2 ⟨e,List.mem_of_getElem? f2,?_⟩)
   rw [f3]
  ·simp [Instr.lookup,run_underlying hm,MapKept.run_getObj_map hb,MapKept.run_checkKey hd hk,MapKept.run_findKey hd f1,Result.andThen]
  ·simp [Instr.lookup,run_underlying hm,MapKept.run_getObj_map hb,MapKept.run_checkKey hd hk,MapKept.run_findKey hd f1,Result.andThen]
theorem run_store (hm:P.underlying mty=some (.map kt et)) (hd:P.underlying kt=some d) (hk:IsKey d key) (v:Value) (h:Sat w0 w (omap d b l::R)) :
  ∃ w',(Instr.mapUpdate mty (.map (some b)) key v).run P w = .ok () w'∧∀ l0,(l.Perm l0∧(∀ p∈l0,p.1≠key)∨∃ v0,l.Perm ((key,v0)::l0))→Sat w0 w' (omap d b ((key,v)::l0)::R):=by
 obtain ⟨es,c,h1,h2,h3,h4⟩:=h.zM
 have hb:=h4.at
 have hnd:=h.ER
 have turn:∀ o':Obj,Sat w0 { w with heap:=w.heap.setIfInBounds b o' } (pt b o'::R):=fun o'=>
  h4.turn rfl rfl rfl (by simp) (heap_set hb).1 (fun i hi _=>(heap_set hb).2 i hi)
 rcases findNow_spec hk es.toList 0 h3 with ⟨f1,f2⟩|⟨j,e,f1,f2,f3⟩
 ·refine ⟨_,by simp [Instr.mapUpdate,run_underlying hm,MapKept.run_getObj_map hb,MapKept.run_checkKey hd hk,MapKept.run_findKey hd f1,MapKept.run_setObj_map _ hb,Result.andThen];rfl,?_⟩
  intro l0 hl0
  refine (turn _).zN ?_ (stamped_push h2 f2) ?_
  ·have hp:l.Perm l0:=by
    rcases hl0 with ⟨hp,_⟩|⟨v0,hp⟩
    ·exact hp
    ·exfalso
     have:(key,v0)∈es.toList.map fun e=>(e.key,e.val):=h1.mem_iff.2 (hp.mem_iff.2 (.head _))
     obtain ⟨x,hx,hxe⟩:=List.mem_map.1 this
     exact f2 x hx (congrArg Prod.fst hxe)
   simp only [Array.toList_push,List.map_append,List.map_cons,List.map_nil]
   exact (List.perm_append_comm).trans (by simpa using (h1.trans hp).cons (key,v))
  ·intro x hx
   simp only [Array.toList_push,List.mem_append,List.mem_singleton]at hx
   rcases hx with hx|rfl
   ·exact h3 x hx
   ·exact hk
 ·have hj:es[j]?=some e:=by simpa using f2
  refine ⟨_,by simp [Instr.mapUpdate,run_underlying hm,MapKept.run_getObj_map hb,MapKept.run_checkKey hd hk,MapKept.run_findKey hd f1,hj,f3,MapKept.run_keyThatStays hk,MapKept.run_setObj_map _ hb,Result.andThen];rfl,?_⟩
  intro l0 hl0
  have hkey:∀ e',es[j]?=some e'→({ e' with key:=key,val:=v }:MapEntry).key=e'.key:=fun e' he'=>by rw [hj]at he';cases he';exact f3.symm
  refine (turn _).zN ?_ (stamped_modify h2 _ _ (fun _ _=>rfl) (fun e' _ he'=>hkey e' he')) (isKey_modify h3 _ _ hkey)
  have hmem:(key,e.val)∈l:=h1.mem_iff.1 (List.mem_map.2 ⟨e,List.mem_of_getElem? f2,by rw [f3]⟩)
  have hlt:j<es.toList.length:=(List.getElem?_eq_some_iff.1 f2).1
  have hsplit:es.toList=es.toList.take j++e::es.toList.drop (j+1):=by
   have he:es.toList[j]=e:=(List.getElem?_eq_some_iff.1 f2).2
   rw [← he,List.getElem_cons_drop,List.take_append_drop]
  have hp:l.Perm ((key,e.val)::l0):=by
   rcases hl0 with ⟨hp,hne⟩|⟨v0,hp⟩
   ·exact absurd rfl (hne _ (hp.mem_iff.1 hmem))
   ·have:(key,e.val)∈(key,v0)::l0:=hp.mem_iff.1 hmem
    rcases List.mem_cons.1 this with hh|hh
    ·rw [hh];exact hp
    ·have hn:=(hp.map (·.1)).nodup_iff.1 hnd
     simp only [List.map_cons,List.nodup_cons]at hn
     exact absurd (List.mem_map.2 ⟨_,hh,rfl⟩) hn.1
  have hmod:(es.modify j fun e=>{ e with key:=key,val:=v }).toList=es.toList.take j++{ e with key:=key,val:=v }::es.toList.drop (j+1):=by
   rw [Array.toList_modify,List.modify_eq_take_cons_drop hlt]
   have he:es.toList[j]=e:=(List.getElem?_eq_some_iff.1 f2).2
   rw [he]
  rw [hmod]
  rw [hsplit]at h1
  simp only [List.map_append,List.map_cons]at h1 ⊢
  rw [f3]at h1
  have h5:((key,e.val)::((es.toList.take j).map (fun e=>(e.key,e.val))++(es.toList.drop (j+1)).map (fun e=>(e.key,e.val)))).Perm ((key,e.val)::l0):=(List.perm_middle.symm.trans h1).trans hp
  exact List.perm_middle.trans ((List.Perm.cons_inv h5).cons _)
theorem aep {ty:TypeId} (hm:P.underlying mty=some (.map kt et)) (hd:P.underlying kt=some d) (hk:IsKey d key) (h:Sat w0 w (omap d b l::R)) :
  ∃ w',(Builtin.delete_ #[mty,kt] ty #[.map (some b),key]).run P w = .ok (.tuple #[]) w'∧∀ l0,(l.Perm l0∧(∀ p∈l0,p.1≠key)∨∃ v0,l.Perm ((key,v0)::l0))→Sat w0 w' (omap d b l0::R):=by
 obtain ⟨es,c,h1,h2,h3,h4⟩:=h.zM
 have hb:=h4.at
 have hnd:=h.ER
 have turn:∀ o':Obj,Sat w0 { w with heap:=w.heap.setIfInBounds b o' } (pt b o'::R):=fun o'=>
  h4.turn rfl rfl rfl (by simp) (heap_set hb).1 (fun i hi _=>(heap_set hb).2 i hi)
 rcases findNow_spec hk es.toList 0 h3 with ⟨f1,f2⟩|⟨j,e,f1,f2,f3⟩
 ·refine ⟨_,by simp [Builtin.delete_,run_underlying hm,MapKept.run_getObj_map hb,MapKept.run_checkKey hd hk,MapKept.run_findKey hd f1,MapKept.run_setObj_map _ hb,Result.andThen];rfl,?_⟩
  intro l0 hl0
  refine (turn _).zN ?_ h2 h3
  rcases hl0 with ⟨hp,_⟩|⟨v0,hp⟩
  ·exact h1.trans hp
  ·exfalso
   have:(key,v0)∈es.toList.map fun e=>(e.key,e.val):=h1.mem_iff.2 (hp.mem_iff.2 (.head _))
   obtain ⟨x,hx,hxe⟩:=List.mem_map.1 this
   exact f2 x hx (congrArg Prod.fst hxe)
 ·refine ⟨_,by simp [Builtin.delete_,run_underlying hm,MapKept.run_getObj_map hb,MapKept.run_checkKey hd hk,MapKept.run_findKey hd f1,MapKept.run_setObj_map _ hb,Result.andThen];rfl,?_⟩
  intro l0 hl0
  have hlt:j<es.toList.length:=(List.getElem?_eq_some_iff.1 f2).1
  have Qo:(es.eraseIdxIfInBounds j).toList=es.toList.take j++es.toList.drop (j+1):=by
   unfold Array.eraseIdxIfInBounds
   rw [dif_pos (by simpa using hlt),Array.toList_eraseIdx,List.eraseIdx_eq_take_drop_succ]
  refine (turn _).zN ?_ (stamped_erase h2 _) ?_
  ·have hmem:(key,e.val)∈l:=h1.mem_iff.1 (List.mem_map.2 ⟨e,List.mem_of_getElem? f2,by rw [f3]⟩)
   have hp:l.Perm ((key,e.val)::l0):=by
    rcases hl0 with ⟨hp,hne⟩|⟨v0,hp⟩
    ·exact absurd rfl (hne _ (hp.mem_iff.1 hmem))
    ·have:(key,e.val)∈(key,v0)::l0:=hp.mem_iff.1 hmem
     rcases List.mem_cons.1 this with hh|hh
     ·rw [hh];exact hp
     ·have hn:=(hp.map (·.1)).nodup_iff.1 hnd
      simp only [List.map_cons,List.nodup_cons]at hn
      exact absurd (List.mem_map.2 ⟨_,hh,rfl⟩) hn.1
   have hsplit:es.toList=es.toList.take j++e::es.toList.drop (j+1):=by
    have he:es.toList[j]=e:=(List.getElem?_eq_some_iff.1 f2).2
    rw [← he,List.getElem_cons_drop,List.take_append_drop]
   rw [Qo]
   rw [hsplit]at h1
   simp only [List.map_append,List.map_cons]at h1 ⊢
   rw [f3]at h1
   exact List.Perm.cons_inv ((List.perm_middle.symm.trans h1).trans hp)
  ·intro x hx
   rw [Qo]at hx
   refine h3 x ?_
   rcases List.mem_append.1 hx with hx|hx
   ·exact List.mem_of_mem_take hx
   ·exact List.mem_of_mem_drop hx
theorem aeB (hm:P.underlying mty=some (.map kt et)) (ty:TypeId) (h:Sat w0 w (omap d b l::R)):(Builtin.len_ #[mty] ty #[.map (some b)]).run P w = .ok (.int .i64 l.length) w:=by
 obtain ⟨es,c,h1,h2,h3,h4⟩:=h.zM
 have hb:=h4.at
 have hl:=h1.length_eq
 simp at hl
 simp [Builtin.len_,run_underlying hm,MapKept.run_getObj_map hb,Result.andThen,goInt,hl]
end
section
variable {P:Program}{w0 w:World}{R:List aC}{d:TypeDesc}{b:Nat}{l:List (Value×Value)}{key:Value}{t kt et:TypeId}
variable {ops:Array Oper}{rest:List Oper}{o:Oper}{a:Act}{Q:Exit→Act→World→Prop}
theorem Vr (hg:o.guard=none) (m x:Operand) (hop:o.op=Op.call { callee:=Callee.builtin Builtin.delete,args:=#[m,x],argTypes:=#[t,kt] })
  (hm:P.underlying t=some (.map kt et)) (hd:P.underlying kt=some d) (hmv:a.eval m = .map (some b)) (hxv:a.eval x=key) (hk:IsKey d key) (h:Sat w0 w (omap d b l::R))
  (l0:List (Value×Value)) (hl:l.Perm l0∧(∀ p∈l0,p.1≠key)∨∃ v0,l.Perm ((key,v0)::l0))
  (hK:∀ w',Sat w0 w' (omap d b l0::R)→wpList P ops Q rest (a.put o.dst (.tuple #[])) w'):wpList P ops Q (o::rest) a w:=by
 refine wpList_plain hg fun K' hK'=>?_
 obtain ⟨w',hrun,hs⟩:=aep (P:=P) (ty:=o.type) hm hd hk h
 unfold Oper.wp
 simp [execOp,hop,resolve,invoke,builtin,hmv,hxv,hrun,Result.andThen]
 exact hK' _ _ (hK w' (hs l0 hl))
theorem LD (hg:o.guard=none) (m x y:Operand) (hop:o.op=Op.mapUpdate t m x y)
  (hm:P.underlying t=some (.map kt et)) (hd:P.underlying kt=some d) (hmv:a.eval m = .map (some b)) (hxv:a.eval x=key) {v:Value} (hyv:a.eval y=v) (hk:IsKey d key) (h:Sat w0 w (omap d b l::R))
  (l0:List (Value×Value)) (hl:l.Perm l0∧(∀ p∈l0,p.1≠key)∨∃ v0,l.Perm ((key,v0)::l0))
  (hK:∀ w',Sat w0 w' (omap d b ((key,v)::l0)::R)→wpList P ops Q rest (a.put o.dst undef) w'):wpList P ops Q (o::rest) a w:=by
 refine wpList_plain hg fun K' hK'=>?_
 obtain ⟨w',hrun,hs⟩:=run_store (P:=P) hm hd hk v h
 unfold Oper.wp
 simp [execOp,hop,hmv,hxv,hyv,hrun,Result.andThen]
 exact hK' _ _ (hK w' (hs l0 hl))
end
end Go.Sl
namespace Go.aB
abbrev Bs:=List UInt8
structure iF where
 cut:Bool
 n:Nat
 b:Bs
def iF.on (c:iF) (l:Bs):Bs:=if c.cut then l.take c.n else l++c.b
structure bD where
 fast:Bs
 now:Bs
 waits:List iF
def bD.new:bD:=⟨[],[],[]⟩
def bD.do (f:bD) (c:iF):bD:={ f with now:=c.on f.now,waits:=f.waits++[c] }
def bD.sync (f:bD):bD:={ f with fast:=f.now,waits:=[] }
def bD.at (f:bD) (k:Nat):Bs:=(f.waits.take k).foldl (fun b c=>c.on b) f.fast
def Eb (x:Int) (hi:Nat):Nat:=min x.toNat hi
def bD.left (f:bD) (whole FQ:Int):Bs:=
 let k:=Eb whole f.waits.length
 match f.waits[k]? with
 |some c=>if c.cut then f.at k else f.at k++c.b.take (Eb FQ c.b.length)
 |none=>f.at k
def bD.crash (f:bD) (whole FQ:Int):bD:=⟨f.left whole FQ,f.left whole FQ,[]⟩
abbrev Names:=List (ByteArray×Nat)
def lt (a b:ByteArray):Bool:=decide (a.data.toList<b.data.toList)
def dD (l:Names) (s:ByteArray):Option Nat:=(l.find? fun p=>p.1==s).map (·.2)
def gI (l:Names) (s:ByteArray):Names:=l.filter fun p=>p.1 != s
def qG:Names→ByteArray→Nat→Names
 |[],s,i=>[(s,i)]
 |p::l,s,i=>if lt s p.1 then (s,i)::p::l else p::qG l s i
def kY (l:Names) (s:ByteArray) (i:Nat):Names:=qG (gI l s) s i
structure iW where
 fr:ByteArray
 to:ByteArray
 f:Nat
def iW.on (x:iW) (l:Names):Names:=
 let l:=if x.fr=ByteArray.empty then l else gI l x.fr
 if x.to=ByteArray.empty then l else kY l x.to x.f
structure aB where
 room:Nat
 fast:Names
 now:Names
 files:List bD
 waits:List iW
 armed:Bool
 left:Nat
 off:Bool
def aB.file (m:aB) (i:Nat):bD:=m.files.getD i bD.new
def aB.used (m:aB):Nat:=(m.now.map fun p=>(m.file p.2).now.length).sum
def new (room:Nat):aB:=⟨room,[],[],[],[],false,0,false⟩
def pO (c:UInt8):Bool:=(97≤c && c≤122) || (48≤c && c≤57) || c==46 || c==45
def good (s:ByteArray):Bool:=decide (1≤s.size) && decide (s.size≤24) && s.data.toList.all pO
def aB.step (m:aB):aB×Bool:=
 if m.armed then (if m.left=0 then ({ m with off:=true },false) else ({ m with left:=m.left - 1 },true)) else (m,true)
def aB.link (m:aB) (x:iW):aB:={ m with now:=x.on m.now,waits:=m.waits++[x] }
def aB.ig (m:aB) (i:Nat) (f:bD):aB:={ m with files:=m.files.set i f }
def aB.create (m:aB) (s:ByteArray):aB×Int:=
 if m.off then (m,12)
 else if good s=false then (m,7)
 else if (dD m.now s).isSome then (m,10)
 else if 500≤m.now.length then (m,16)
 else if m.step.2=false then (m.step.1,12)
 else ({ m.step.1 with files:=m.files++[bD.new] }.link ⟨ByteArray.empty,s,m.files.length⟩,0)
def aB.append (m:aB) (s:ByteArray) (b:Bs):aB×Int:=
 if m.off then (m,12)
 else match dD m.now s with
 |none=>(m,9)
 |some i=>
  if (m.room:Int) - m.used<b.length then (m,11)
  else if m.step.2=false then (m.step.1,12)
  else (m.step.1.ig i ((m.file i).do ⟨false,0,b⟩),0)
def aB.truncate (m:aB) (s:ByteArray) (n:Int):aB×Int:=
 if m.off then (m,12)
 else match dD m.now s with
 |none=>(m,9)
 |some i=>
  if n<0∨((m.file i).now.length:Int)<n then (m,2)
  else if m.step.2=false then (m.step.1,12)
  else (m.step.1.ig i ((m.file i).do ⟨true,n.toNat,[]⟩),0)
def aB.rename (m:aB) (s t:ByteArray):aB×Int:=
 if m.off then (m,12)
 else match dD m.now s with
 |none=>(m,9)
 |some i=>
  if good t=false then (m,7)
  else if m.step.2=false then (m.step.1,12)
  else (m.step.1.link ⟨s,t,i⟩,0)
def aB.remove (m:aB) (s:ByteArray):aB×Int:=
 if m.off then (m,12)
 else match dD m.now s with
 |none=>(m,9)
 |some _=>
  if m.step.2=false then (m.step.1,12)
  else (m.step.1.link ⟨s,ByteArray.empty,0⟩,0)
def aB.sync (m:aB) (s:ByteArray):aB×Int:=
 if m.off then (m,12)
 else match dD m.now s with
 |none=>(m,9)
 |some i=>
  if m.step.2=false then (m.step.1,12)
  else (m.step.1.ig i (m.file i).sync,0)
def aB.jG (m:aB):aB×Int:=
 if m.off then (m,12)
 else if m.step.2=false then (m.step.1,12)
 else ({ m.step.1 with fast:=m.now,waits:=[] },0)
def aB.read (m:aB) (s:ByteArray) (at_ n:Int):Bs×Int:=
 if m.off then ([],12)
 else match dD m.now s with
 |none=>([],9)
 |some i=>
  let l:=(m.file i).now
  if at_<0∨n<0 then ([],2)
  else if (l.length:Int)<at_∨(l.length:Int) - at_<n then ([],3)
  else ((l.drop at_.toNat).take n.toNat,0)
def aB.all (m:aB) (s:ByteArray):Bs×Int:=
 if m.off then ([],12)
 else match dD m.now s with
 |none=>([],9)
 |some i=>((m.file i).now,0)
def aB.size (m:aB) (s:ByteArray):Int×Int:=
 if m.off then (0,12)
 else match dD m.now s with
 |none=>(0,9)
 |some i=>((m.file i).now.length,0)
def aB.list (m:aB):List ByteArray:=if m.off then [] else m.now.map (·.1)
def aB.rU (m:aB):Nat:=if m.off then 0 else m.used
def aB.zZ (m:aB) (n:Int):aB×Int:=
 if m.off then (m,12) else if n<0∨16777216<n then (m,2) else ({ m with room:=n.toNat },0)
def aB.arm (m:aB) (n:Int):aB×Int:=
 if m.off then (m,12) else if n<0 then (m,2) else ({ m with armed:=true,left:=n.toNat },0)
def num (l:List Int) (i:Nat):Int:=l.getD i 0
def aB.mF (m:aB) (k:Nat):Names:=(m.waits.take k).foldl (fun l x=>x.on l) m.fast
def Ou (l:List Int):Names→Nat→List bD→List bD
 |[],_,fs=>fs
 |p::ns,j,fs=>Ou l ns (j+2) (fs.set p.2 ((fs.getD p.2 bD.new).crash (num l j) (num l (j+1))))
def aB.crash (m:aB) (l:List Int):aB:=
 let ns:=m.mF (Eb (num l 0) m.waits.length)
 { m with fast:=ns,now:=ns,waits:=[],files:=Ou l ns 1 m.files,off:=false,armed:=false,left:=0 }
def iL (l:Bs) (i:Nat) (y:UInt8):Bs:=l.set i (l.getD i 0 ^^^ y)
def wR (f:bD) (i:Nat) (y:UInt8):Nat→Option (List iF)
 |0=>none
 |k+1=>
  match f.waits[k]? with
  |none=>wR f i y k
  |some c=>if c.cut then wR f i y k
   else if (f.at k).length≤i then some (f.waits.set k { c with b:=iL c.b (i - (f.at k).length) y })
   else wR f i y k
def bD.lX (f:bD) (i:Nat) (y:UInt8):bD:=
 match wR f i y f.waits.length with
 |some ws=>{ f with now:=iL f.now i y,waits:=ws }
 |none=>{ f with now:=iL f.now i y,fast:=iL f.fast i y }
def aB.lX (m:aB) (s:ByteArray) (i:Int) (y:UInt8):aB×Bool:=
 match dD m.now s with
 |none=>(m,false)
 |some k=>if i<0∨((m.file k).now.length:Int)≤i then (m,false) else (m.ig k ((m.file k).lX i.toNat y),true)
end Go.aB
namespace Go.Proofs.YtlimfgdbfadohaaGreatDoor
open Go Go.Sl Go.aB Go.MapKept
def ay (l:Bs):List Value:=l.map fun b=> .int .u8 b.toNat
abbrev ptr (b:Nat):Value:= .pointer (some ⟨b,0,none⟩)
abbrev errno (n:Int):Value:= .int .i64 n
def tY (p:iF×Value):List Value:=[.bool p.1.cut,.int .i64 p.1.n,p.2]
def aK (v:Value) (l:Bs):aC:=aF 5 1 v (ay l)
def su (ws:List (iF×Value)):aC:=stars (ws.map fun p=>aK p.2 p.1.b)
def zB (b:Nat) (fv nv wv:Value):aC:=pt b (.cells #[fv,nv,wv] 76 (0,0))
def Ai (b:Nat) (f:bD) (fv nv wv:Value) (ws:List (iF×Value)):List aC:=
 [zB b fv nv wv,aK fv f.fast,aK nv f.now,aF 128 3 wv (ws.flatMap tY),su ws]
def jT (b:Nat) (f:bD):aC:=fun h=>∃ fv nv wv ws,ws.map (·.1)=f.waits∧stars (Ai b f fv nv wv ws) h
def mX (bs:List Nat) (fs:List bD):aC:=stars (List.zipWith jT bs fs)
def dO (bs:List Nat) (l:Names):List (Value×Value):=l.map fun p=>(.string p.1,ptr (bs.getD p.2 0))
def lU (bs:List Nat) (x:iW):List Value:=[.string x.fr,.string x.to,if x.to=ByteArray.empty then .pointer none else ptr (bs.getD x.f 0)]
def mG (m:Nat) (M:aB) (fb nb:Nat) (wv:Value):aC:=
 pt m (.cells #[.int .i64 M.room,.map (some fb),.map (some nb),wv,.bool M.armed,.int .i64 M.left,.bool M.off] 71 (0,0))
def tN (m:Nat) (M:aB) (bs:List Nat) (fb nb:Nat) (wv:Value):List aC:=
 [mG m M fb nb wv,omap .string nb (dO bs M.now),mX bs M.files,omap .string fb (dO bs M.fast),aF 280 3 wv (M.waits.flatMap (lU bs))]
def aT (m:Nat) (M:aB):aC:=fun h=>∃ bs fb nb wv,bs.length=M.files.length∧stars (tN m M bs fb nb wv) h
section
variable {w0 w:World}{F:List aC}{m b:Nat}{M:aB}{f:bD}
theorem aT.open (h:Sat w0 w (aT m M::F)):∃ bs fb nb wv,bs.length=M.files.length∧Sat w0 w (tN m M bs fb nb wv++F):=by
 obtain ⟨ha,x,hx,p,q,d,rfl,⟨bs,fb,nb,wv,hl,hp⟩,hq⟩:=h
 refine ⟨bs,fb,nb,wv,hl,ha,_,hx,?_⟩
 rw [pX]
 exact ⟨p,q,d,rfl,hp,hq⟩
theorem aT.shut {bs:List Nat}{fb nb:Nat}{wv:Value} (hl:bs.length=M.files.length) (h:Sat w0 w (tN m M bs fb nb wv++F)):Sat w0 w (aT m M::F):=
 h.join fun _ hx=>⟨bs,fb,nb,wv,hl,hx⟩
theorem jT.open (h:Sat w0 w (jT b f::F)):∃ fv nv wv ws,ws.map (·.1)=f.waits∧Sat w0 w (Ai b f fv nv wv ws++F):=by
 obtain ⟨ha,x,hx,p,q,d,rfl,⟨bs,fb,nb,wv,hl,hp⟩,hq⟩:=h
 refine ⟨bs,fb,nb,wv,hl,ha,_,hx,?_⟩
 rw [pX]
 exact ⟨p,q,d,rfl,hp,hq⟩
theorem jT.shut {fv nv wv:Value}{ws:List (iF×Value)} (hl:ws.map (·.1)=f.waits) (h:Sat w0 w (Ai b f fv nv wv ws++F)):Sat w0 w (jT b f::F):=
 h.join fun _ hx=>⟨fv,nv,wv,ws,hl,hx⟩
theorem Iq:∀ (bs:List Nat) (fs:List bD) (i:Nat),bs.length=fs.length→i<fs.length →
  ∃ G:aC,(mX bs fs=star (jT (bs.getD i 0) (fs.getD i bD.new)) G)∧∀ f',mX bs (fs.set i f')=star (jT (bs.getD i 0) f') G
 |[],[],i,_,h=>by simp at h
 |[],_::_,_,h,_=>by simp at h
 |_::_,[],_,h,_=>by simp at h
 |b::bs,f::fs,0,_,_=>⟨mX bs fs,rfl,fun _=>rfl⟩
 |b::bs,f::fs,i+1,hl,hi=>by
  obtain ⟨G,h1,h2⟩:=Iq bs fs i (by simpa using hl) (by simpa using hi)
  refine ⟨star (jT b f) G,?_,fun f'=>?_⟩
  ·show star (jT b f) (mX bs fs)=_
   rw [h1,Df];rfl
  ·show star (jT b f) (mX bs (fs.set i f'))=_
   rw [h2,Df];rfl
theorem O8:∀ (bs:List Nat) (fs:List bD) (b:Nat) (f:bD),bs.length=fs.length→mX (bs++[b]) (fs++[f])=star (jT b f) (mX bs fs)
 |[],[],_,_,_=>rfl
 |[],_::_,_,_,h=>by simp at h
 |_::_,[],_,_,h=>by simp at h
 |c::bs,g::fs,b,f,h=>by
  show star (jT c g) (mX (bs++[b]) (fs++[f]))=_
  rw [O8 bs fs b f (by simpa using h),Df];rfl
end
theorem info8:(Tryz.prog.info? 5).map (fun i=>(i.zero,i.size,i.bytes))=some (some (.int .u8 0),1,1):=by kernel_rfl
theorem aaQ (w:World):(zeroValue 72).run Tryz.prog w = .ok (.pointer none) w:=by kernel_rfl
@[go_sem] theorem ahI (w:World) (r:Option Nat):(binOp .eql 68 (.map r) (.map none)).run Tryz.prog w = .ok (.bool r.isNone) w:=run_eql_map_nil w _ _ _ r Tryz.underlying68
end Go.Proofs.YtlimfgdbfadohaaGreatDoor
namespace Go.Proofs.YtlimfgdbfadohaaGreatDoor
open Go Go.Sl Go.aB Go.MapKept Go.RowKit
section
variable {w0 w:World}{F:List aC}{m fb nb:Nat}{M:aB}{bs:List Nat}{wv:Value}{s:ByteArray}
theorem xQ (h:Sat w0 w (mG m M fb nb wv::F)) :
  Calls Tryz.prog 106 #[ptr m] w (aI fun v w'=>v=errno (bif M.off then 12 else 0)∧w=w'):=by
 obtain ⟨room,fast,now,files,waits,armed,left,off⟩:=M
 have c2:=h.cellAt 2 _ rfl
 have c6:=h.cellAt 6 _ rfl
 go_enter Tryz.func106,Tryz.ntmps106
 cases off <;> (go_wp2;go_ret;exact ⟨_,rfl,rfl,rfl⟩)
theorem Ac (h:Sat w0 w (mG m M fb nb wv::F)) (hl:M.left≤9223372036854775807) :
  Calls Tryz.prog 168 #[ptr m] w (aI fun v w'=>v=errno (bif M.step.2 then 0 else 12)∧Sat w0 w' (mG m M.step.1 fb nb wv::F)):=by
 obtain ⟨room,fast,now,files,waits,armed,left,off⟩:=M
 have c4:=h.cellAt 4 _ rfl
 have c5:=h.cellAt 5 _ rfl
 have f5:=h.nY 5
 have f6:=h.nY 6
 have c6:=h.cellAt 6 _ rfl
 simp only at hl
 go_enter Tryz.func168,Tryz.ntmps168
 cases armed
 ·go_wp2
  go_ret
  exact ⟨_,rfl,by simp [aB.step],by simpa [aB.step] using h⟩
 ·by_cases hz:left=0
  ·subst hz
   go_wp2
   go_ret
   exact ⟨_,rfl,rfl,h.set 6 (.bool true)⟩
  ·have hz':((left:Int)==0)=false:=by simpa using hz
   have e1:((left - 1:Nat):Int)=(left:Int) - 1:=by omega
   go_wp2
   go_ret
   refine ⟨_,rfl,by simp [aB.step,hz],?_⟩
   have:=h.set 5 (.int .i64 ((left:Int) - 1))
   simp only [aB.step,hz,if_true,if_false,mG,e1]
   exact this
end
end Go.Proofs.YtlimfgdbfadohaaGreatDoor
namespace Go.aB
theorem nU (a b:ByteArray):(a==b)=decide (a=b):=by
 by_cases h:a=b
 ·subst h;simp [(MapKept.bytes_beq a a).2 rfl]
 ·have:¬ (a==b)=true:=fun e=>h ((MapKept.bytes_beq a b).1 e)
  simp [h,Bool.eq_false_iff.2 this]
theorem kX {l:Names}{s:ByteArray}{i:Nat} (h:dD l s=some i):(s,i)∈l:=by
 unfold dD at h
 cases hf:l.find? (fun p=>p.1==s) with
 |none=>rw [hf]at h;cases h
 |some p=>
  rw [hf]at h
  have h1:=List.find?_some hf
  have h2:=List.mem_of_find?_eq_some hf
  simp [nU]at h1 h
  obtain ⟨a,b⟩:=p
  simp at h1 h;subst h1;subst h;exact h2
theorem JO {l:Names}{s:ByteArray} (h:dD l s=none):∀ p∈l,p.1≠s:=by
 intro p hp e
 simp only [dD,Option.map_eq_none_iff,List.find?_eq_none]at h
 exact h p hp (by simp [nU,e])
theorem JQ {l:Names} (hn:(l.map (·.1)).Nodup){s:ByteArray}{i:Nat} (h:(s,i)∈l):dD l s=some i:=by
 cases hg:dD l s with
 |none=>exact absurd rfl (JO hg _ h)
 |some j=>
  have hj:=kX hg
  induction l with
  |nil=>cases h
  |cons p l ih=>
   simp only [List.map_cons,List.nodup_cons]at hn
   rcases List.mem_cons.1 h with h1|h1 <;> rcases List.mem_cons.1 hj with h2|h2
   ·rw [← h1]at h2;cases h2;rfl
   ·exact (hn.1 (List.mem_map.2 ⟨_,h2,by rw [← h1]⟩)).elim
   ·exact (hn.1 (List.mem_map.2 ⟨_,h1,by rw [← h2]⟩)).elim
   ·refine ih hn.2 h1 ?_ h2
    unfold dD at hg ⊢
    have:(p.1==s)=false:=by
     rw [nU];simp
     intro e
     exact hn.1 (List.mem_map.2 ⟨_,h1,e.symm⟩)
    rw [List.find?_cons_of_neg (by simp [this])]at hg
    exact hg
theorem ab2 (l:Names) (s:ByteArray):∀ p∈gI l s,p.1≠s:=by
 intro p hp
 have:=(List.mem_filter.1 hp).2
 simpa [nU,bne] using this
theorem RY {l:Names} (hn:(l.map (·.1)).Nodup){s:ByteArray}{i:Nat} (h:(s,i)∈l):l.Perm ((s,i)::gI l s):=by
 induction l with
 |nil=>cases h
 |cons p l ih=>
  simp only [List.map_cons,List.nodup_cons]at hn
  rcases List.mem_cons.1 h with h1|h1
  ·subst h1
   have:gI ((s,i)::l) s=l:=by
    unfold gI
    rw [List.filter_cons_of_neg (by simp [nU,bne]),List.filter_eq_self]
    intro q hq
    simp only [bne,nU,Bool.not_eq_true',decide_eq_false_iff_not]
    exact fun e=>hn.1 (List.mem_map.2 ⟨q,hq,e⟩)
   rw [this]
  ·have hps:p.1≠s:=fun e=>hn.1 (List.mem_map.2 ⟨_,h1,e.symm⟩)
   have:gI (p::l) s=p::gI l s:=by
    unfold gI
    rw [List.filter_cons_of_pos (by simpa [nU,bne] using hps)]
   rw [this]
   exact ((ih hn.2 h1).cons p).trans (List.Perm.swap _ _ _)
theorem yC {l:Names}{s:ByteArray} (h:dD l s=none):gI l s=l:=by
 unfold gI
 rw [List.filter_eq_self]
 intro q hq
 simpa [nU,bne] using JO h q hq
theorem JV:∀ (l:Names) (s:ByteArray) (i:Nat),(qG l s i).Perm ((s,i)::l)
 |[],_,_=>List.Perm.refl _
 |p::l,s,i=>by
  unfold qG
  split
  ·exact List.Perm.refl _
  ·exact ((JV l s i).cons p).trans (List.Perm.swap _ _ _)
theorem wO (l:Names) (s:ByteArray) (i:Nat):(kY l s i).Perm ((s,i)::gI l s):=JV _ _ _
end Go.aB
namespace Go.Sl
open Go Go.MapKept
abbrev kv (e:MapEntry):Value×Value:=(e.key,e.val)
theorem Js {α β:Type}{f:α→β}:∀ {l:List α},(l.map f).Nodup→∀ {x y:α},x∈l→y∈l→f x=f y→x=y
 |[],_,_,_,h,_,_=>by cases h
 |z::l,hn,x,y,hx,hy,e=>by
  simp only [List.map_cons,List.nodup_cons]at hn
  rcases List.mem_cons.1 hx with h1|h1 <;> rcases List.mem_cons.1 hy with h2|h2
  ·rw [h1,h2]
  ·subst h1;exact (hn.1 (List.mem_map.2 ⟨y,h2,e.symm⟩)).elim
  ·subst h2;exact (hn.1 (List.mem_map.2 ⟨x,h1,e⟩)).elim
  ·exact Js hn.2 h1 h2 e
def rng (d:TypeDesc) (b r:Nat) (l left:List (Value×Value)):aC:=fun h=>
 ∃ es clock seen,(es.toList.map kv).Perm l∧Stamped es clock∧(∀ x∈es.toList,IsKey d x.key)∧((es.toList.filter fun e => !seen.contains e.born).map kv).Perm left ∧
  star (pt b (.map es clock)) (pt r (.mapIter (some b) clock seen clock)) h
section
variable {P:Program}{w0 w:World}{R:List aC}{d:TypeDesc}{b r:Nat}{l left:List (Value×Value)}
theorem Sat.TN (h:Sat w0 w (rng d b r l left::R)):∃ es clock seen,(es.toList.map kv).Perm l∧Stamped es clock∧(∀ x∈es.toList,IsKey d x.key)∧((es.toList.filter fun e => !seen.contains e.born).map kv).Perm left ∧
  Sat w0 w (pt b (.map es clock)::pt r (.mapIter (some b) clock seen clock)::R):=by
 obtain ⟨ha,x,hx,p,q,dd,rfl,⟨es,c,se,h1,h2,h3,h4,h5⟩,hq⟩:=h
 refine ⟨es,c,se,h1,h2,h3,h4,Sat.star.1 ⟨ha,_,hx,p,q,dd,rfl,h5,hq⟩⟩
theorem Sat.TP {es:Array MapEntry}{clock:Nat}{seen:Array Nat} (h:Sat w0 w (pt b (.map es clock)::pt r (.mapIter (some b) clock seen clock)::R))
  (h1:(es.toList.map kv).Perm l) (h2:Stamped es clock) (h3:∀ x∈es.toList,IsKey d x.key) (h4:((es.toList.filter fun e => !seen.contains e.born).map kv).Perm left):Sat w0 w (rng d b r l left::R):=
 (Sat.star.2 h).head fun _ hx=>⟨es,clock,seen,h1,h2,h3,h4,hx⟩
theorem Sat.KE (h:Sat w0 w (rng d b r l left::R)):Sat w0 w (omap d b l::R):=by
 obtain ⟨es,c,se,h1,h2,h3,h4,h5⟩:=h.TN
 exact (h5.aP.drop).zN h1 h2 h3
theorem aeF {t k e:TypeId} (ht:P.underlying t=some (.map k e)) (h:Sat w0 w (omap d b l::R)) :
  ∃ r w',(Instr.range t (.map (some b))).run P w = .ok (.pointer (some ⟨r,0,none⟩)) w'∧Sat w0 w' (rng d b r l l::R):=by
 obtain ⟨es,c,h1,h2,h3,h4⟩:=h.zM
 have hb:=h4.at
 refine ⟨w.heap.size,w.alloc (.mapIter (some b) c #[] c),?_,?_⟩
 ·simp [Instr.range,run_underlying ht,MapKept.run_getObj_map hb,Result.andThen]
 ·exact (h4.alloc (.mapIter (some b) c #[] c)).aP.TP h1 h2 h3 (by rw [List.filter_eq_self.2 (by simp)];exact h1)
theorem aeD (h:Sat w0 w (rng d b r l left::R)) (ty:TypeId) :
  (left=[]∧(Instr.next (.pointer (some ⟨r,0,none⟩)) false ty).run P w = .ok (.tuple #[.bool false]) w) ∨
  ∃ k v left' w',left.Perm ((k,v)::left')∧(Instr.next (.pointer (some ⟨r,0,none⟩)) false ty).run P w = .ok (.tuple #[.bool true,k,v]) w'∧Sat w0 w' (rng d b r l left'::R) ∧
   (Instr.entry (.pointer (some ⟨r,0,none⟩))).run P w' = .ok (.tuple #[k,v]) w':=by
 obtain ⟨es,c,se,h1,h2,h3,h4,h5⟩:=h.TN
 have hb:=h5.at
 have hr:=h5.aP.at
 have hne:=h5.ne
 have hgr:(getObj r).run P w = .ok (.mapIter (some b) c se c) w:=by simp [getObj,Sem.run,hr]
 have hgb:(getObj b).run P w = .ok (.map es c) w:=MapKept.run_getObj_map hb
 have hborn:=h2.1
 have hold:(es.filter fun e => !se.contains e.born).filter (fun e=>decide (e.born<c))=es.filter fun e => !se.contains e.born:=by
  apply Array.ext'
  simp only [Array.toList_filter]
  rw [List.filter_eq_self]
  intro x hx
  simpa using hborn x ((List.mem_filter.1 hx).1)
 have hnew:(es.filter fun e => !se.contains e.born).filter (fun e=>decide (e.born≥c))=#[]:=by
  apply Array.ext'
  simp only [Array.toList_filter]
  rw [List.filter_eq_nil_iff]
  intro x hx
  have:=hborn x ((List.mem_filter.1 hx).1)
  simp;omega
 have hall:(!se.isEmpty && !es.isEmpty && es.all (fun e=>decide (e.born≥c)))=false:=by
  by_cases he:es.isEmpty
  ·simp [he]
  ·have:es.all (fun e=>decide (e.born≥c))=false:=by
    rw [Array.all_eq_false]
    have:0<es.size:=by
     rcases Nat.eq_zero_or_pos es.size with h|h
     ·exact absurd (by simpa using h) he
     ·exact h
    refine ⟨0,this,?_⟩
    have:=hborn es[0] (by simp)
    simp;omega
   simp [this]
 generalize hlf:(es.filter fun e => !se.contains e.born)=lf at *
 have EC:lf.toList=es.toList.filter fun e => !se.contains e.born:=by rw [← hlf];simp
 rw [← EC]at h4
 have key:(Instr.next (.pointer (some ⟨r,0,none⟩)) false ty).run P w =
   (do
    let candidates:=(if lf.isEmpty then #[none] else #[])++lf.map some
    match candidates[← choose (.mapNext candidates.size)]? with
    |some (some e)=>
     setObj r (.mapIter (some b) c (se.push e.born) c)
     pure (.tuple #[.bool true,e.key,e.val])
    |some none=>pure (.tuple #[.bool false])
    |none=>stuck "Next: no such candidate" : Sem Value).run P w:=by
  unfold Instr.next
  simp only [Sem.run_bind,hgr,Result.andThen_ok,hgb,hall,Bool.false_eq_true,if_false,hlf,hold,hnew,Array.append_empty]
  rfl
 by_cases hle:lf=#[]
 ·left
  subst hle
  have:left=[]:=by simpa using h4.symm
  refine ⟨this,?_⟩
  rw [key]
  simp [choose,Sem.run,Question.forced,Result.andThen]
 ·right
  have hpos:0<lf.size:=by
   rcases Nat.eq_zero_or_pos lf.size with h|h
   ·exact absurd (by simpa using h) hle
   ·exact h
  have hemp:lf.isEmpty=false:=by simpa using hle
  -- which one
  obtain ⟨i,w1,hi,hw1,hch⟩:∃ i w1,i<lf.size∧(w1=w∨w1=w.drew)∧(choose (.mapNext (lf.map some).size)).run P w = .ok i w1:=by
   by_cases h1:lf.size≤1
   ·refine ⟨0,w,hpos,.inl rfl,?_⟩
    simp [choose,Sem.run,Question.forced,h1]
   ·refine ⟨w.tape w.drawn (.mapNext (lf.map some).size)%lf.size,w.drew,Nat.mod_lt _ hpos,.inr rfl,?_⟩
    simp [choose,Sem.run,Question.forced,h1,Question.cut]
  have h5':Sat w0 w1 (pt b (.map es c)::pt r (.mapIter (some b) c se c)::R):=by
   rcases hw1 with rfl|rfl
   ·exact h5
   ·exact h5.drew
  have hr1:=h5'.aP.at
  have hget:(lf.map some)[i]?=some (some lf[i]):=by simp [hi]
  obtain ⟨x,hx⟩:∃ x,x=lf[i]:=⟨_,rfl⟩
  have hxm:x∈es.toList.filter fun e => !se.contains e.born:=by rw [← EC,hx];simp
  have Jm:x∈es.toList:=(List.mem_filter.1 hxm).1
  have hset:(setObj r (.mapIter (some b) c (se.push x.born) c)).run P w1 = .ok () { w1 with heap:=w1.heap.setIfInBounds r (.mapIter (some b) c (se.push x.born) c) }:=by
   simp [setObj,Sem.run,hr1]
  have h6:Sat w0 { w1 with heap:=w1.heap.setIfInBounds r (.mapIter (some b) c (se.push x.born) c) } (pt r (.mapIter (some b) c (se.push x.born) c)::pt b (.map es c)::R):=
   h5'.aP.turn rfl rfl rfl (by simp) (heap_set hr1).1 (fun i hi _=>(heap_set hr1).2 i hi)
  have hnd:=h2.2.1
  refine ⟨x.key,x.val,(es.toList.filter fun e => !(se.push x.born).contains e.born).map kv,_,?_,?_,h6.aP.TP h1 h2 h3 (List.Perm.refl _),?_⟩
  ·
   refine h4.symm.trans ?_
   rw [EC]
   have hbn:∀ y∈es.toList,y.born=x.born→y=x:=by
    intro y hy hyx
    exact Js hnd hy Jm hyx
   have hmem:x∈es.toList.filter fun e => !se.contains e.born:=hxm
   have:(es.toList.filter fun e => !se.contains e.born).Perm (x::es.toList.filter fun e => !(se.push x.born).contains e.born):=by
    have hf:(es.toList.filter fun e => !(se.push x.born).contains e.born)=(es.toList.filter fun e => !se.contains e.born).filter fun e=>e.born != x.born:=by
     rw [List.filter_filter]
     apply List.filter_congr
     intro y _
     by_cases hb:y.born=x.born <;> simp [hb]
    rw [hf]
    have hnd':((es.toList.filter fun e => !se.contains e.born).map (·.born)).Nodup:=hnd.sublist ((List.filter_sublist).map _)
    clear hf h4 EC hlf key
    generalize (es.toList.filter fun e => !se.contains e.born)=L at *
    induction L with
    |nil=>cases hmem
    |cons y L ih=>
     simp only [List.map_cons,List.nodup_cons]at hnd'
     rcases List.mem_cons.1 hmem with rfl|hm
     ·rw [List.filter_cons_of_neg (by simp)]
      rw [List.filter_eq_self.2]
      intro z hz
      simp only [bne_iff_ne,ne_eq]
      intro e
      exact hnd'.1 (List.mem_map.2 ⟨z,hz,e⟩)
     ·have hyx:y.born≠x.born:=fun e=>hnd'.1 (List.mem_map.2 ⟨x,hm,e.symm⟩)
      rw [List.filter_cons_of_pos (by simpa using hyx)]
      exact ((ih hm hm hnd'.2).cons y).trans (List.Perm.swap _ _ _)
   simpa using this.map kv
  ·rw [key,hemp]
   simp only [Bool.false_eq_true,if_false,Array.empty_append,Sem.run_bind,hch,Result.andThen_ok,hget,← hx,hset,Sem.run_pure]
  ·have yu:=h6.at
   have hb6:=h6.aP.at
   have hg1:∀ w',w'.heap[r]?=some (.mapIter (some b) c (se.push x.born) c)→(getObj r).run P w' = .ok (.mapIter (some b) c (se.push x.born) c) w':=by
    intro w' hw;simp [getObj,Sem.run,hw]
   have hfind:es.find? (fun e=>e.born==x.born)=some x:=by
    rw [← Array.find?_toList]
    cases hf:es.toList.find? (fun e=>e.born==x.born) with
    |none=>
     rw [List.find?_eq_none]at hf
     exact absurd (by simp) (hf x Jm)
    |some y=>
     have h7:=List.find?_some hf
     have h8:=List.mem_of_find?_eq_some hf
     rw [Js hnd h8 Jm (by simpa using h7)]
   unfold Instr.entry
   simp only [Sem.run_bind,hg1 _ yu,Result.andThen_ok,MapKept.run_getObj_map hb6,Array.back?_push,hfind]
   simp
variable {ops:Array Oper}{rest:List Oper}{o:Oper}{a:Act}{Q:Exit→Act→World→Prop}
theorem LC (hg:o.guard=none) (m:Operand) (t k e:TypeId) (hop:o.op=Op.range t m) (ht:P.underlying t=some (.map k e)) (hm:a.eval m = .map (some b)) (h:Sat w0 w (omap d b l::R))
  (hK:∀ r w',Sat w0 w' (rng d b r l l::R)→wpList P ops Q rest (a.put o.dst (.pointer (some ⟨r,0,none⟩))) w'):wpList P ops Q (o::rest) a w:=by
 refine wpList_plain hg fun K hK'=>?_
 obtain ⟨r,w',hr,hs⟩:=aeF (P:=P) ht h
 unfold Oper.wp
 simp [execOp,hop,hm,hr,Result.andThen]
 exact hK' _ _ (hK r w' hs)
theorem Lu (hg:o.guard=none) (it:Operand) (hop:o.op=Op.next it false) (hit:a.eval it = .pointer (some ⟨r,0,none⟩)) (h:Sat w0 w (rng d b r l left::R))
  (hnil:left=[]→wpList P ops Q rest (a.put o.dst (.tuple #[.bool false])) w)
  (hK:∀ k v left' w',left.Perm ((k,v)::left')→Sat w0 w' (rng d b r l left'::R)→(Instr.entry (.pointer (some ⟨r,0,none⟩))).run P w' = .ok (.tuple #[k,v]) w' →
   wpList P ops Q rest (a.put o.dst (.tuple #[.bool true,k,v])) w'):wpList P ops Q (o::rest) a w:=by
 refine wpList_plain hg fun K hK'=>?_
 unfold Oper.wp
 rcases aeD (P:=P) h o.type with ⟨h1,h2⟩|⟨k,v,left',w',h1,h2,h3,h4⟩
 ·simp [execOp,hop,hit,h2,Result.andThen]
  exact hK' _ _ (hnil h1)
 ·simp [execOp,hop,hit,h2,Result.andThen]
  exact hK' _ _ (hK k v left' w' h1 h3 h4)
end
end Go.Sl
namespace Go.Proofs.YtlimfgdbfadohaaGreatDoor
open Go Go.Sl Go.aB Go.MapKept Go.RowKit
section
variable {w0 w:World}{F:List aC}{m fb nb b:Nat}{M:aB}{bs:List Nat}{wv:Value}{s:ByteArray}{l:Names}
theorem JF (h:Sat w0 w (omap .string b (dO bs l)::F)):(l.map (·.1)).Nodup:=by
 have:=h.ER
 simp only [dO,List.map_map]at this
 rw [List.nodup_iff_pairwise_ne,List.pairwise_map]at this ⊢
 refine this.imp fun {x y} hxy e=>hxy ?_
 simp [e]
def x8 (bs:List Nat) (l:Names) (s:ByteArray):Value:=match dD l s with|some i=>ptr (bs.getD i 0)|none=> .pointer none
theorem JB (h:Sat w0 w (omap .string b (dO bs l)::F)):(Instr.lookup 68 (.map (some b)) (.string s) false).run Tryz.prog w = .ok (x8 bs l s) w:=by
 have hn:=JF h
 rcases Ug (P:=Tryz.prog) Tryz.underlying68 Tryz.underlying9 (aaQ w) (key:= .string s) trivial h with ⟨v,h1,h2,_⟩|⟨h1,h2,_⟩
 ·rw [h2]
  obtain ⟨p,hp,e⟩:=List.mem_map.1 h1
  simp only [Prod.mk.injEq,Value.string.injEq]at e
  obtain ⟨a,i⟩:=p
  simp only at e
  rw [← e.1,← e.2,x8,JQ hn hp]
 ·rw [h2,x8]
  cases hg:dD l s with
  |none=>rfl
  |some i=>exact absurd rfl (h1 (.string s,ptr (bs.getD i 0)) (List.mem_map.2 ⟨(s,i),kX hg,rfl⟩))
abbrev RQ (m:Nat) (M:aB) (fb nb:Nat) (wv:Value) (bs:List Nat) (F:List aC):List aC:=mG m M fb nb wv::omap .string nb (dO bs M.now)::F
theorem zD (h:Sat w0 w (mG m M fb nb wv::F)) (ho:M.off=true) :
  Calls Tryz.prog 108 #[ptr m,.string s] w (aI fun v w'=>v = .tuple #[.pointer none,errno 12]∧w=w'):=by
 go_enter Tryz.func108,Tryz.ntmps108
 go_wp2_with (go_at_call 106;refine (xQ h).mono ?_;rintro e w1 ⟨v,rfl,rfl,rfl⟩;rw [ho])
 go_ret2
 exact ⟨_,rfl,rfl,rfl⟩
theorem zC (h:Sat w0 w (RQ m M fb nb wv bs F)) (ho:M.off=false) (hn:dD M.now s=none) :
  Calls Tryz.prog 108 #[ptr m,.string s] w (aI fun v w'=>v = .tuple #[.pointer none,errno 9]∧w=w'):=by
 have c2:=h.cellAt 2 _ rfl
 have hl:=JB (s:=s) h.aP
 rw [x8,hn]at hl
 have hd:=xQ h
 rw [ho]at hd
 clear hn ho
 go_enter Tryz.func108,Tryz.ntmps108
 go_wp2_with (go_at_call 106;refine hd.mono ?_;rintro e w1 ⟨v,rfl,rfl,rfl⟩)
 go_ret2
 exact ⟨_,rfl,rfl,rfl⟩
theorem zF {i:Nat} (h:Sat w0 w (RQ m M fb nb wv bs F)) (ho:M.off=false) (hn:dD M.now s=some i) :
  Calls Tryz.prog 108 #[ptr m,.string s] w (aI fun v w'=>v = .tuple #[ptr (bs.getD i 0),errno 0]∧w=w'):=by
 have c2:=h.cellAt 2 _ rfl
 have hl:=JB (s:=s) h.aP
 rw [x8,hn]at hl
 have hd:=xQ h
 rw [ho]at hd
 clear hn ho
 simp only at hl
 generalize bs.getD i 0=fp at *
 go_enter Tryz.func108,Tryz.ntmps108
 go_wp2_with (go_at_call 106;refine hd.mono ?_;rintro e w1 ⟨v,rfl,rfl,rfl⟩)
 go_ret2
 exact ⟨_,rfl,rfl,rfl⟩
end
section
variable {w0 w:World}{F:List aC}{m fb nb b:Nat}{M:aB}{bs:List Nat}{wv:Value}{s:ByteArray}{l:Names}
theorem EJ {l l':Names} (h:l.Perm l'):(dO bs l).Perm (dO bs l'):=h.map _
theorem OC (hn:(l.map (·.1)).Nodup) (s:ByteArray):(dO bs l).Perm (dO bs (gI l s))∧(∀ p∈dO bs (gI l s),p.1 ≠ .string s)∨∃ v0,(dO bs l).Perm ((.string s,v0)::dO bs (gI l s)):=by
 cases hg:dD l s with
 |none=>
  left
  rw [yC hg]
  refine ⟨List.Perm.refl _,fun p hp=>?_⟩
  obtain ⟨q,hq,rfl⟩:=List.mem_map.1 hp
  simpa using JO hg q hq
 |some i=>exact .inr ⟨ptr (bs.getD i 0),EJ (RY hn (kX hg))⟩
def og (bs:List Nat) (x:iW):Value:=if x.to=ByteArray.empty then .pointer none else ptr (bs.getD x.f 0)
theorem G9 {s:ByteArray} (h:s≠ByteArray.empty):s.toList.isEmpty=false:=by
 cases hs:s.toList with
 |cons _ _=>rfl
 |nil=>
  exfalso;apply h
  have:s.data.toList=[]:=by rw [← Lib.toList_data];exact hs
  obtain ⟨⟨d⟩⟩:=s
  simp at this;subst this;rfl
theorem Hw {s:ByteArray} (h:s=ByteArray.empty):s.toList=[]:=by subst h;rw [Lib.toList_data];rfl
theorem acB (fr to:ByteArray) (q:Value) (h:Sat w0 w (omap .string b (dO bs l)::F)) (l1 l2:List (Value×Value))
  (h1:fr=ByteArray.empty∧l1=dO bs l∨fr≠ByteArray.empty∧((dO bs l).Perm l1∧(∀ p∈l1,p.1 ≠ .string fr)∨∃ v0,(dO bs l).Perm ((.string fr,v0)::l1)))
  (h2:to=ByteArray.empty∧l2=l1∨to≠ByteArray.empty∧∃ l3,(l1.Perm l3∧(∀ p∈l3,p.1 ≠ .string to)∨∃ v0,l1.Perm ((.string to,v0)::l3))∧l2=(.string to,q)::l3) :
  Calls Tryz.prog 203 #[.agg #[.string fr,.string to,q],.map (some b)] w (aI fun _ w'=>Sat w0 w' (omap .string b l2::F)):=by
 have hb:=(h.alloc (.cells #[.string fr,.string to,q] 280)).aP
 go_enter Tryz.func203,Tryz.ntmps203
 rcases h1 with ⟨hf,h1⟩|⟨hf,h1⟩
 ·have e1:=Hw hf
  clear hf
  subst h1
  rcases h2 with ⟨ht,h2⟩|⟨ht,l3,h3,h2⟩
  ·have e2:=Hw ht
   clear ht
   subst h2
   go_wp2
   go_end0
   exact ⟨_,rfl,hb.aP.drop⟩
  ·have e2:=G9 ht
   clear ht
   have H2:=uQ h2;clear h2
   have H3:=uQ h3;clear h3
   go_wp2_with (at_mapUpdate;go_must (refine LD (key:= .string to) ah _ _ _ ah Tryz.underlying68 Tryz.underlying9 ah ah ah trivial hb l3 H3.out ?_);intro w1 hS1)
   go_end0
   rw [H2.out]
   exact ⟨_,rfl,hS1.aP.drop⟩
 ·have e1:=G9 hf
  clear hf
  have H1:=uQ h1;clear h1
  rcases h2 with ⟨ht,h2⟩|⟨ht,l3,h3,h2⟩
  ·have e2:=Hw ht
   clear ht
   subst h2
   go_wp2_with (at_delete;go_must (refine Vr (key:= .string fr) ah _ _ ah Tryz.underlying68 Tryz.underlying9 ah ah trivial hb l2 H1.out ?_);intro w1 hS1;have c0:=hS1.aP.cellAt 0 _ rfl;have c1:=hS1.aP.cellAt 1 _ rfl)
   go_end0
   exact ⟨_,rfl,hS1.aP.drop⟩
  ·have e2:=G9 ht
   clear ht
   have H2:=uQ h2;clear h2
   have H3:=uQ h3;clear h3
   go_wp2_with (first
    |(at_delete;go_must (refine Vr (key:= .string fr) ah _ _ ah Tryz.underlying68 Tryz.underlying9 ah ah trivial hb l1 H1.out ?_);intro w1 hS1;have c0:=hS1.aP.cellAt 0 _ rfl;have c1:=hS1.aP.cellAt 1 _ rfl;have c2:=hS1.aP.cellAt 2 _ rfl)
    |(at_mapUpdate;go_must (refine LD (key:= .string to) ah _ _ _ ah Tryz.underlying68 Tryz.underlying9 ah ah ah trivial hS1 l3 H3.out ?_);intro w2 hS2))
   go_end0
   rw [H2.out]
   exact ⟨_,rfl,hS2.aP.drop⟩
theorem acA (x:iW) (h:Sat w0 w (omap .string b (dO bs l)::F)) :
  Calls Tryz.prog 203 #[.agg #[.string x.fr,.string x.to,og bs x],.map (some b)] w (aI fun _ w'=>Sat w0 w' (omap .string b (dO bs (x.on l))::F)):=by
 have hn:=JF h
 obtain ⟨fr,to,f⟩:=x
 have key:∀ l1:Names,l1=(if fr=ByteArray.empty then l else gI l fr)→(l1.map (·.1)).Nodup:=by
  rintro l1 rfl
  split
  ·exact hn
  ·exact hn.sublist ((List.filter_sublist).map _)
 have:=acB fr to (og bs ⟨fr,to,f⟩) h (dO bs (if fr=ByteArray.empty then l else gI l fr))
  (if to=ByteArray.empty then dO bs (if fr=ByteArray.empty then l else gI l fr) else (.string to,ptr (bs.getD f 0))::dO bs (gI (if fr=ByteArray.empty then l else gI l fr) to)) ?_ ?_
 ·refine this.mono ?_
  rintro e w1 ⟨v,rfl,hS⟩
  refine ⟨v,rfl,?_⟩
  unfold iW.on
  simp only
  split
  ·rename_i ht;rw [if_pos ht]at hS;exact hS
  ·rename_i ht
   rw [if_neg ht]at hS
   exact hS.ET (EJ (wO _ _ _)).symm
 ·by_cases hf:fr=ByteArray.empty
  ·exact .inl ⟨hf,by rw [if_pos hf]⟩
  ·exact .inr ⟨hf,by rw [if_neg hf];exact OC hn fr⟩
 ·by_cases ht:to=ByteArray.empty
  ·exact .inl ⟨ht,by rw [if_pos ht]⟩
  ·refine .inr ⟨ht,_,OC (key _ rfl) to,?_⟩
   rw [if_neg ht]
   simp [og,ht]
end
end Go.Proofs.YtlimfgdbfadohaaGreatDoor
namespace Go.Sl
open Go
section
variable {P:Program}{ops:Array Oper}{Q:Exit→Act→World→Prop}{late:List Nat}{G:World→Prop}
def keeps (late:List Nat) (G:World→Prop) (i:Nat) (w w':World):Prop:=late.contains i=true∨G w'∨w'=w
def iK (P:Program) (ops:Array Oper) (Q:Exit→Act→World→Prop) (late:List Nat) (G:World→Prop):Nat→Array Bool→Act→World→Prop
 |0,l,a,w=>Region.ready .any ops l=[]∧Q .normal a w
 |n+1,l,a,w=>(Region.ready .any ops l=[]→Q .normal a w) ∧
  ∀ i∈Region.ready .any ops l,wpOp P ops Q i (fun a' w'=>keeps late G i w w'∧iK P ops Q late G n (l.setIfInBounds i true) a' w') a w
theorem Lr:∀ (n:Nat) (l:Array Bool) (a:Act) (w:World),iK P ops Q late G n l a w→wpAny P .any ops Q n l a w
 |0,_,_,_,h=>h
 |n+1,_,_,_,h=>⟨h.1,fun i hi=>wpOp_mono (fun a' w' h'=>Lr n _ a' w' h'.2) (h.2 i hi)⟩
theorem dh {id:Nat}{a:Act}{w:World} (late:List Nat) (G:World→Prop) (hm:P.follows .mixedOrders=true)
  (h:iK P ops Q late G ops.size (Array.replicate ops.size false) a w.drew):(Code.region id ops true).wp P Q a w:=
 wp_region_any hm (Lr _ _ _ _ h)
def waitsFor (ops:Array Oper) (i:Nat):Nat→Nat→Bool
 |0,_=>false
 |n+1,j=>((ops[j]?).map fun o=>(o.after.any fun e=>Region.binds .any e && e.on==i) || (o.after.any fun e=>Region.binds .any e && waitsFor ops i n e.on)).getD false
def Jv (ops:Array Oper) (late:List Nat) (i:Nat):Bool:=late.all fun j=>j==i || waitsFor ops i 8 j
def Dc (ops:Array Oper) (l:Array Bool):Prop:=∀ (k:Nat) (ok:Oper),ops[k]?=some ok→l.getD k false=true→∀ e∈ok.after,Region.binds .any e=true→l.getD e.on false=true
def sW (ops:Array Oper) (l:Array Bool):Bool:=(List.range ops.size).all fun k => !l.getD k false || ((ops[k]?).map fun o=>o.after.all fun e => !Region.binds .any e || l.getD e.on false).getD true
theorem Ux {l:Array Bool} (h:sW ops l=true):Dc ops l:=by
 intro k ok hk hl e he hb
 have hlt:k<ops.size:=(Array.getElem?_eq_some_iff.1 hk).1
 have h1:=(List.all_eq_true.1 h) k (by simpa using hlt)
 simp only [hl,hk,Option.map_some,Option.getD_some,Bool.not_true,Bool.false_or]at h1
 obtain ⟨m,hm,rfl⟩:=Array.getElem_of_mem he
 have h2:=Array.all_eq_true.1 h1 m hm
 simpa [hb] using h2
theorem aff {l:Array Bool}{j:Nat} (h:Dc ops l) (hj:j∈Region.ready .any ops l):Dc ops (l.setIfInBounds j true):=by
 obtain ⟨hun,oj,hoj,hall⟩:=mem_ready.1 hj
 have hmono:∀ k,l.getD k false=true→(l.setIfInBounds j true).getD k false=true:=by
  intro k hk
  by_cases hjk:j=k
  ·subst hjk
   rcases Nat.lt_or_ge j l.size with h'|h'
   ·simp [h']
   ·simp [Array.getElem?_eq_none h']at hk
  ·simp only [Array.getD_eq_getD_getElem?]at hk ⊢
   rw [Array.getElem?_setIfInBounds_ne hjk];exact hk
 intro k ok hk hl e he hb
 by_cases hjk:j=k
 ·subst hjk
  rw [hoj]at hk;cases hk
  exact hmono _ (hall e he hb)
 ·refine hmono _ (h k ok hk ?_ e he hb)
  simp only [Array.getD_eq_getD_getElem?]at hl ⊢
  rw [Array.getElem?_setIfInBounds_ne hjk]at hl;exact hl
theorem Vj {l:Array Bool} (hs:Dc ops l) (i:Nat):∀ (n j:Nat),waitsFor ops i n j=true→(∀ oj,ops[j]?=some oj→∀ e∈oj.after,Region.binds .any e=true→l.getD e.on false=true)→l.getD i false=true
 |0,_,h,_=>by cases h
 |n+1,j,h,hj=>by
  unfold waitsFor at h
  cases ho:ops[j]? with
  |none=>rw [ho]at h;simp at h
  |some o=>
   rw [ho]at h
   simp only [Option.map_some,Option.getD_some,Bool.or_eq_true]at h
   rcases h with h|h
   ·obtain ⟨k,hk,h2⟩:=Array.any_eq_true.1 h
    simp only [Bool.and_eq_true,beq_iff_eq]at h2
    rw [← h2.2]
    exact hj o ho _ (Array.getElem_mem hk) h2.1
   ·obtain ⟨k,hk,h2⟩:=Array.any_eq_true.1 h
    simp only [Bool.and_eq_true]at h2
    have hl:=hj o ho _ (Array.getElem_mem hk) h2.1
    exact Vj hs i n _ h2.2 (fun ok hok=>hs _ ok hok hl)
theorem Vp {i:Nat}{oi:Oper}{v:Value}{S:World→Prop} (hi:ops[i]?=some oi) (hsel:∀ (j:Nat) (o:Oper) cs b,ops[j]?=some o→o.op ≠ .select cs b)
  (hQ:∀ c a w,Q (.panic c) (a.put oi.dst v) w→Q (.panic c) a w)
  (hS:∀ j,waitsFor ops i 8 j=false→j≠i→∀ w w',S w→keeps late G j w w'→S w') :
  ∀ (n:Nat) (l:Array Bool) (a:Act) (w:World),Dc ops l →
   (∀ j oj,ops[j]?=some oj→j≠i→l.getD j true=false→(∀ e∈oj.after,Region.binds .any e=true→e.on≠i)→oi.apart ops oj=true) →
   i∈Region.ready .any ops l→YieldsIf P ops S oi v a→S w →
   iK P ops Q late G n (l.setIfInBounds i true) (a.put oi.dst v) w→iK P ops Q late G (n+1) l a w:=by
 intro n
 induction n with
 |zero=>
  intro l a w _ _ hr hy hs H
  refine ⟨(fun h=>(by rw [h]at hr;cases hr)),fun j hj=>?_⟩
  by_cases hji:j=i
  ·subst hji;exact hy.wpOp hi hs ⟨.inr (.inr rfl),H⟩
  ·have:=ready_mono hj hji
   rw [H.1]at this
   cases this
 |succ n ih=>
  intro l a w hsh hfree hr hy hs H
  refine ⟨(fun h=>(by rw [h]at hr;cases hr)),fun j hj=>?_⟩
  by_cases hji:j=i
  ·subst hji;exact hy.wpOp hi hs ⟨.inr (.inr rfl),H⟩
  ·have h1:=H.2 j (ready_mono hj hji)
   obtain ⟨hjun,oj,hoj,hall⟩:=mem_ready.1 hj
   have Qr:l.getD i false=false:=by
    have h0:=(mem_ready.1 hr).1
    rcases Nat.lt_or_ge i l.size with h'|h'
    ·simp [h']at h0 ⊢;exact h0
    ·simp [Array.getElem?_eq_none h']at h0
   have hnot:∀ e∈oj.after,Region.binds .any e=true→e.on≠i:=fun e he hb heq=>by
    have h1:=hall e he hb
    rw [heq,Qr]at h1
    cases h1
   have aaF:waitsFor ops i 8 j=false:=by
    cases hw:waitsFor ops i 8 j with
    |false=>rfl
    |true=>
     have:=Vj hsh i 8 j hw (fun o ho=>by rw [hoj]at ho;cases ho;exact hall)
     rw [Qr]at this;cases this
   have h2:=wpOp_putIf hoj (hfree j oj hoj hji hjun hnot) (fun cs b=>hsel i oi cs b hi) (fun cs b=>hsel j oj cs b hoj) hQ hy h1
   have hfree':∀ k ok,ops[k]?=some ok→k≠i→(l.setIfInBounds j true).getD k true=false →
     (∀ e∈ok.after,Region.binds .any e=true→e.on≠i)→oi.apart ops ok=true:=fun k ok hok hki hun hno=>by
    refine hfree k ok hok hki ?_ hno
    by_cases hjk:j=k
    ·subst hjk;exact hjun
    ·rw [getD_set_ne true hjk]at hun;exact hun
   refine wpOp_mono (fun a' w' h3=>⟨h3.2.1,ih (l.setIfInBounds j true) a' w' (aff hsh hj) hfree' (ready_mono hr (Ne.symm hji)) h3.1 (hS j aaF hji w w' hs h3.2.1) ?_⟩) h2
   rw [Array.setIfInBounds_comm _ _ hji]
   exact h3.2.2
theorem qc {i:Nat}{oi:Oper}{v:Value}{n:Nat}{l:Array Bool}{a:Act}{w:World} (hi:ops[i]?=some oi)
  (hc:(Region.noSelect ops && Region.free .any ops l i && (Region.ready .any ops l).contains i && Jv ops late i && sW ops l)=true)
  (hQ:∀ c a w,Q (.panic c) (a.put oi.dst v) w→Q (.panic c) a w) (hy:YieldsIf P ops G oi v a) (hG:G w)
  (h:iK P ops Q late G n (l.setIfInBounds i true) (a.put oi.dst v) w):iK P ops Q late G (n+1) l a w:=by
 simp only [Bool.and_eq_true]at hc
 obtain ⟨⟨⟨⟨hs,hf⟩,hr⟩,hl⟩,hsh⟩:=hc
 refine Vp hi (Region.noSelect_spec hs) hQ ?_ n l a w (Ux hsh) (Region.free_spec hi hf) (by simpa using hr) hy hG h
 intro j hno hji w w' hw hk
 rcases hk with hc|hk|rfl
 ·exfalso
  have h1:=(List.all_eq_true.1 hl) j (by simpa using hc)
  rw [hno,Bool.or_false]at h1
  exact hji (by simpa using h1)
 ·exact hk
 ·exact hw
theorem fP {i:Nat}{oi:Oper}{v:Value}{n:Nat}{l:Array Bool}{a:Act}{w:World} (hi:ops[i]?=some oi)
  (hc:(Region.noSelect ops && Region.free .any ops l i && (Region.ready .any ops l).contains i && sW ops l)=true)
  (hQ:∀ c a w,Q (.panic c) (a.put oi.dst v) w→Q (.panic c) a w) (hy:Yields P ops oi v a)
  (h:iK P ops Q late G n (l.setIfInBounds i true) (a.put oi.dst v) w):iK P ops Q late G (n+1) l a w:=by
 simp only [Bool.and_eq_true]at hc
 obtain ⟨⟨⟨hs,hf⟩,hr⟩,hsh⟩:=hc
 exact Vp (S:=fun _=>True) hi (Region.noSelect_spec hs) hQ (fun _ _ _ _ _ _ _=>trivial) n l a w (Ux hsh) (Region.free_spec hi hf) (by simpa using hr) hy.yieldsIf trivial h
theorem ou {i:Nat}{o:Oper}{n:Nat}{l:Array Bool}{a:Act}{w:World} (ho:ops[i]?=some o) (hr:Region.ready .any ops l=[i])
  (h:∀ K:Act→World→Prop,(∀ a' w',keeps late G i w w'→iK P ops Q late G n (l.setIfInBounds i true) a' w'→K a' w') →
   if Region.wanted o (yielded ops a.tmps)=true then Oper.wp P o a w K Q else K (a.put o.dst undef) w):iK P ops Q late G (n+1) l a w:=by
 refine ⟨(fun h0=>by rw [hr]at h0;cases h0),fun j hj=>?_⟩
 rw [hr]at hj
 obtain rfl:j=i:=by simpa using hj
 have:=h _ (fun a' w' h1 h2=>And.intro h1 h2)
 unfold wpOp
 rw [ho]
 show if Region.wanted o (yielded ops a.tmps)=true then _ else _
 split
 ·rename_i hw;rw [if_pos hw]at this;exact .inl this
 ·rename_i hw;rw [if_neg hw]at this;exact this
theorem cu {n:Nat}{l:Array Bool}{a:Act}{w:World} (hr:Region.ready .any ops l=[]) (h:Q .normal a w):iK P ops Q late G n l a w:=by
 cases n with
 |zero=>exact ⟨hr,h⟩
 |succ n=>exact ⟨fun _=>h,(by rw [hr];intro i hi;cases hi)⟩
end
end Go.Sl
namespace Go.Proofs.YtlimfgdbfadohaaGreatDoor
open Go Go.Sl Go.aB Go.MapKept Go.RowKit
attribute [local go_sem ↓] Go.wp_at_zero Go.wp_at_succ
section
variable {w0 w:World}{F:List aC}{m fb nb b:Nat}{M:aB}{bs:List Nat}{wv:Value}{s:ByteArray}{l:Names}
theorem aaS:(Tryz.prog.info? 280).map (fun i=>(i.zero,i.size,i.bytes))=some (some (.agg #[.string ByteArray.empty,.string ByteArray.empty,.pointer none]),3,40):=by kernel_rfl
theorem Rx (x:iW) (h:Sat w0 w (mG m M fb nb wv::omap .string nb (dO bs M.now)::aF 280 3 wv (M.waits.flatMap (lU bs))::F)) (hw:M.waits.length≤1099511627776) :
  Calls Tryz.prog 169 #[ptr m,.agg #[.string x.fr,.string x.to,og bs x]] w
   (aI fun _ w'=>∃ wv',Sat w0 w' (mG m (M.link x) fb nb wv'::omap .string nb (dO bs (M.link x).now)::aF 280 3 wv' ((M.link x).waits.flatMap (lU bs))::F)):=by
 obtain ⟨i,hi,hz0,hz1,hz2⟩:=info_parts aaS
 have hb:=(h.alloc (.cells #[.string x.fr,.string x.to,og bs x] 280))
 have hon:=acA (w:=(w.alloc (.cells #[.string x.fr,.string x.to,og bs x] 280)).drew) x hb.dM.drew
 have c2:=hb.aP.cellAt 2 _ rfl
 have b0:=hb.cellAt 0 _ rfl
 have b1:=hb.cellAt 1 _ rfl
 have b2:=hb.cellAt 2 _ rfl
 have hoc:∀ u∈(#[.string x.fr,.string x.to,og bs x]:Array Value).toList,u.oneCell'=true:=by
  intro u hu
  simp only [List.mem_cons,List.not_mem_nil,or_false]at hu
  rcases hu with rfl|rfl|rfl
  ·rfl
  ·rfl
  ·unfold og;split <;> rfl
 have hlen:(M.waits.flatMap (lU bs)).length=M.waits.length * 3:=by
  rw [List.length_flatMap];simp [lU,List.map_const']
 have h63:(M.waits.flatMap (lU bs)).length+3≤maxLen:=by unfold maxLen;omega
 have hby:((M.waits.flatMap (lU bs)).length+3) * i.bytes≤140737488355328:=by rw [hz2];omega
 have hcs:lU bs x=(#[.string x.fr,.string x.to,og bs x]:Array Value).toList:=rfl
 have hfin:∀ wv',mG m (M.link x) fb nb wv'=pt m (.cells #[.int .i64 M.room,.map (some fb),.map (some nb),wv',.bool M.armed,.int .i64 M.left,.bool M.off] 71 (0,0)):=fun _=>rfl
 have Wp:=uQ hcs;clear hcs
 have Hlen:=uQ hlen;clear hlen
 have bV:=uQ hfin;clear hfin
 generalize og bs x=q at *
 go_enter Tryz.func169,Tryz.ntmps169
 go_wp2_with fail
 refine dh [5] (fun w'=>w'.cell? ⟨m,2,none⟩=some (.map (some nb))∧w'.cell? ⟨w.heap.size,0,none⟩=some (.string x.fr)∧w'.cell? ⟨w.heap.size,1,none⟩=some (.string x.to)∧w'.cell? ⟨w.heap.size,2,none⟩=some q) au ?_
 have hG:=And.intro c2 (And.intro b0 (And.intro b1 b2))
 refine qc (i:=0) (v:=?_) rfl au (fun _ _ _ h=>h) (Or.inl ⟨by rfl,?_⟩) aQ ?_;rotate_left;focus ((intro wq hq;go_split_ands;go_simp);first|done|(with_reducible rfl))
 refine fP (i:=1) (v:=?_) rfl au (fun _ _ _ h=>h) (Or.inl ⟨by rfl,?_⟩) ?_;rotate_left;focus ((intro wq;go_simp);first|done|(with_reducible rfl))
 refine fP (i:=2) (v:=?_) rfl au (fun _ _ _ h=>h) (Or.inl ⟨by rfl,?_⟩) ?_;rotate_left;focus ((intro wq;go_simp);first|done|(with_reducible rfl))
 refine fP (i:=3) (v:=?_) rfl au (fun _ _ _ h=>h) (Or.inl ⟨by rfl,?_⟩) ?_;rotate_left;focus ((intro wq;go_simp);first|done|(with_reducible rfl))
 refine qc (i:=4) (v:=?_) rfl au (fun _ _ _ h=>h) (Or.inl ⟨by rfl,?_⟩) aQ ?_;rotate_left;focus ((intro wq hq;go_split_ands;go_simp);first|done|(with_reducible rfl))
 refine ou (i:=5) rfl au (fun K hK=>?_)
 go_simp
 refine hon.mono ?_
 rintro e w1 ⟨v,rfl,hS1⟩
 refine hK _ _ (.inl rfl) ?_
 clear hK K hG
 refine cu au ?_
 have hS2:=hS1.dM
 have d3:=hS2.cellAt 3 _ rfl
 have b0:=hS1.aP.cellAt 0 _ rfl
 have b1:=hS1.aP.cellAt 1 _ rfl
 have b2:=hS1.aP.cellAt 2 _ rfl
 clear hS2
 go_wp2_with fail
 refine dh [7,8,9,10] (fun w'=>w'.cell? ⟨m,3,none⟩=some wv∧w'.cell? ⟨w.heap.size,0,none⟩=some (.string x.fr)∧w'.cell? ⟨w.heap.size,1,none⟩=some (.string x.to)∧w'.cell? ⟨w.heap.size,2,none⟩=some q) au ?_
 have hG:=And.intro d3 (And.intro b0 (And.intro b1 b2))
 refine fP (i:=0) (v:=?_) rfl au (fun _ _ _ h=>h) (Or.inl ⟨by rfl,?_⟩) ?_;rotate_left;focus ((intro wq;go_simp);first|done|(with_reducible rfl))
 refine fP (i:=1) (v:=?_) rfl au (fun _ _ _ h=>h) (Or.inl ⟨by rfl,?_⟩) ?_;rotate_left;focus ((intro wq;go_simp);first|done|(with_reducible rfl))
 refine fP (i:=2) (v:=?_) rfl au (fun _ _ _ h=>h) (Or.inl ⟨by rfl,?_⟩) ?_;rotate_left;focus ((intro wq;go_simp);first|done|(with_reducible rfl))
 refine fP (i:=3) (v:=?_) rfl au (fun _ _ _ h=>h) (Or.inl ⟨by rfl,?_⟩) ?_;rotate_left;focus ((intro wq;go_simp);first|done|(with_reducible rfl))
 refine qc (i:=4) (v:=?_) rfl au (fun _ _ _ h=>h) (Or.inl ⟨by rfl,?_⟩) aQ ?_;rotate_left;focus ((intro wq hq;go_split_ands;go_simp);first|done|(with_reducible rfl))
 refine qc (i:=5) (v:=?_) rfl au (fun _ _ _ h=>h) (Or.inl ⟨by rfl,?_⟩) aQ ?_;rotate_left;focus ((intro wq hq;go_split_ands;go_simp);first|done|(with_reducible rfl))
 refine ou (i:=6) rfl au (fun K hK=>?_)
 go_simp
 have h7:=hS1.drew.alloc (.cells #[.string x.fr,.string x.to,q] 280)
 have d3:=h7.iy.cellAt 3 _ rfl
 have b0:=h7.dM.cellAt 0 _ rfl
 have b1:=h7.dM.cellAt 1 _ rfl
 have b2:=h7.dM.cellAt 2 _ rfl
 refine hK _ _ (.inr <| .inl <| And.intro d3 (And.intro b0 (And.intro b1 b2))) ?_
 clear hK K
 refine ou (i:=7) rfl au (fun K hK=>?_)
 refine step_append (w0:=w0) ah _ _ _ ah _ i _ Tryz.underlying69 hi hz0 hz1 ah oQ ah ah hoc (h7.ny) (yE _ _ _ 3 1 1 ah) h63 hby ?_
 intro v2 w2 hS2 hne
 obtain ⟨g2,n2,k2,rfl⟩:=hne (by simp)
 have e3:=hS2.ny.cellAt 3 _ rfl
 have g3:=hS2.ny.nY 3
 have b0:=hS2.iy.cellAt 0 _ rfl
 have b1:=hS2.iy.cellAt 1 _ rfl
 have b2:=hS2.iy.cellAt 2 _ rfl
 refine hK _ _ (.inl rfl) ?_
 clear hK K
 refine fP (i:=8) (v:=?_) rfl au (fun _ _ _ h=>h) (Or.inl ⟨by rfl,?_⟩) ?_;rotate_left;focus ((intro wq;go_simp);first|done|(with_reducible rfl))
 refine fP (i:=9) (v:=?_) rfl au (fun _ _ _ h=>h) (Or.inl ⟨by rfl,?_⟩) ?_;rotate_left;focus ((intro wq;go_simp);first|done|(with_reducible rfl))
 refine ou (i:=10) rfl au (fun K hK=>?_)
 go_simp
 refine hK _ _ (.inl rfl) ?_
 clear hK K
 refine cu au ?_
 go_wp2
 go_end0
 refine ⟨_,rfl,.slice (some ⟨g2,0,none⟩) n2 k2,?_⟩
 have h9:=hS2.ny.set 3 (.slice (some ⟨g2,0,none⟩) n2 k2)
 rw [bV.out]
 unfold aB.link
 simp only [List.flatMap_append,List.flatMap_cons,List.flatMap_nil,List.append_nil]
 rw [Wp.out]
 exact h9.sel 5 [0,3,1] rfl rfl
end
section
variable {w0 w:World}{F:List aC}{m fb nb b:Nat}{M:aB}{bs:List Nat}{wv v:Value}{s:ByteArray}{l:Bs}
theorem aU (l:Bs):(ay l).length=l.length:=by simp [ay]
theorem jU (l:Bs):∀ u∈ay l,u.oneCell'=true:=by
 intro u hu
 obtain ⟨b,_,rfl⟩:=List.mem_map.1 hu
 rfl
theorem jQ (l k:Bs):ay (l++k)=ay l++ay k:=by simp [ay]
theorem Yl (l:Bs) (n:Nat):ay (l.take n)=(ay l).take n:=by simp [ay,List.map_take]
theorem qA (h:Sat w0 w F) (hr:bK 1 v (ay l) w) (hl:l.length≤140737488355328) :
  Calls Tryz.prog 26 #[v] w (aI fun v' w'=>Sat w0 w' (aK v' l::F)∧∃ a n c,v' = .slice a n c):=by
 obtain ⟨a,n,c,rfl,hn,hc⟩:=hr
 rw [aU,Nat.mul_one]at hn
 subst hn
 cases a with
 |none=>
  have:l=[]:=by
   cases l with
   |nil=>rfl
   |cons x l=>obtain ⟨b,hb,_⟩:=hc 0 _ rfl;cases hb
  subst this
  refine (Tryz.bytes_Clone_nil 0 c w).mono ?_
  rintro e w1 ⟨rfl,rfl⟩
  exact ⟨_,rfl,Sat.fM.2 h,_,_,_,rfl⟩
 |some a=>
  refine (Tryz.bytes_Clone_at a l.length c (l.map fun b=>(b.toNat:Int)) w (by simp) hl ?_).mono ?_
  ·intro i hi
   obtain ⟨b,hb,hx⟩:=hc i (.int .u8 (l[i]).toNat) (by simp [ay,hi])
   cases hb
   rw [hx]
   simp [hi]
  ·rintro e w1 ⟨v',rfl,ho,hne,hb⟩
   obtain ⟨hlen,hv|⟨g,cap,cur,rfl,hbg,hg,hnc,hcm,hcs,htk⟩⟩:=ho
   ·exact absurd hv.1 hne
   ·refine ⟨_,rfl,?_,_,_,_,rfl⟩
    refine (h.fresh hb.os hb.tape hb.output hb.size hbg hg hb.block).jV ?_ hnc oQ hcm ?_
    ·rw [aU];omega
    ·rw [htk];simp [ay]
def Ie (c:iF) (bv:Value):Value:= .agg #[.bool c.cut,.int .i64 c.n,bv]
theorem Yu (n:Nat) (bv:Value) (h:Sat w0 w (aK v l::F)) (hn:n≤l.length) :
  Calls Tryz.prog 236 #[.agg #[.bool true,.int .i64 n,bv],v] w (aI fun v' w'=>Sat w0 w' (aK v' (l.take n)::F)∧∃ a n c,v' = .slice a n c):=by
 have hb:=(h.alloc (.cells #[.bool true,.int .i64 n,bv] 128))
 have b0:=hb.cellAt 0 _ rfl
 have b1:=hb.cellAt 1 _ rfl
 rcases hb.aP.jR with ⟨rfl,hl,h'⟩|⟨g,m,cap,cs,rfl,hl,hm,hc,hcm,htk,hp⟩
 ·have hl0:l=[]:=by simpa [ay] using hl
  subst hl0
  obtain rfl:n=0:=by simpa using hn
  go_enter Tryz.func236,Tryz.ntmps236
  go_wp2
  go_ret
  exact ⟨_,rfl,Sat.fM.2 h'.drop,_,_,_,rfl⟩
 ·rw [aU,Nat.mul_one]at hl
  subst hl
  have e1:(n:Int)≤(cap:Int):=by omega
  have e0:(0:Int)≤(n:Int):=by omega
  have iM:=uQ htk;clear htk
  have hfin:Sat w0 (w.alloc (.cells #[.bool true,.int .i64 n,bv] 128)) (aK (.slice (some ⟨g,0,none⟩) n n) (l.take n)::F):=by
   refine (hp.aP.drop).jV ?_ (Nat.le_refl _) oQ oQ ?_
   ·rw [aU,List.length_take];omega
   ·rw [Yl,← iM.out];simp [List.take_take,Nat.min_eq_left hn]
  go_enter Tryz.func236,Tryz.ntmps236
  go_wp2
  go_ret
  exact ⟨_,rfl,hfin,_,_,_,rfl⟩
theorem uF:∃ i:TypeInfo,Tryz.prog.info? 5=some i∧i.zero=some (.int .u8 0)∧i.size=1∧i.bytes=1:=by
 obtain ⟨i,hi,hz0,hz1,hz2⟩:=info_parts info8
 exact ⟨i,hi,hz0,hz1,hz2⟩
theorem Yr (n:Int) (bv:Value) (cb:Bs) (h:Sat w0 w (aK v l::F)) (hr:Ro w0 F (bK 1 bv (ay cb))) (hl:l.length+cb.length≤140737488355328) (hbv:∃ a n c,bv = .slice a n c) :
  Calls Tryz.prog 236 #[.agg #[.bool false,.int .i64 n,bv],v] w (aI fun v' w'=>Sat w0 w' (aK v' (l++cb)::F)∧∃ a n c,v' = .slice a n c):=by
 obtain ⟨i,hi,hz0,hz1,hz2⟩:=uF
 have hb:=(h.alloc (.cells #[.bool false,.int .i64 n,bv] 128))
 have b0:=hb.cellAt 0 _ rfl
 have b2:=hb.cellAt 2 _ rfl
 have hcl:=qA hb.drew hb.drew.aP.rd oQ
 have h63:(ay l).length+(ay cb).length≤maxLen:=by rw [aU,aU];unfold maxLen;omega
 have hby:((ay l).length+(ay cb).length) * i.bytes≤140737488355328:=by rw [aU,aU,hz2];omega
 obtain ⟨ba,bn,bc,rfl⟩:=hbv
 go_enter Tryz.func236,Tryz.ntmps236
 go_wp2_with fail
 refine dh [4,5] (fun w'=>w'.cell? ⟨w.heap.size,2,none⟩=some (.slice ba bn bc)) au ?_
 refine fP (i:=0) (v:=?_) rfl au (fun _ _ _ h=>h) (Or.inl ⟨by rfl,?_⟩) ?_;rotate_left;focus ((intro wq;go_simp);first|done|(with_reducible rfl))
 refine fP (i:=2) (v:=?_) rfl au (fun _ _ _ h=>h) (Or.inl ⟨by rfl,?_⟩) ?_;rotate_left;focus ((intro wq;go_simp);first|done|(with_reducible rfl))
 refine qc (i:=3) (v:=?_) rfl au (fun _ _ _ h=>h) (Or.inl ⟨by rfl,?_⟩) aQ ?_;rotate_left;focus ((intro wq hq;go_split_ands;go_simp);first|done|(with_reducible rfl))
 refine ou (i:=1) rfl au (fun K hK=>?_)
 go_simp
 refine hcl.mono ?_
 rintro e w1 ⟨v1,rfl,hS1,a1,n1,c1,rfl⟩
 have b2:=hS1.aP.cellAt 2 _ rfl
 refine hK _ _ (.inr (.inl b2)) ?_
 clear hK K
 refine ou (i:=4) rfl au (fun K hK=>?_)
 refine step_append (w0:=w0) ah _ _ _ ah _ i _ Tryz.underlying27 hi hz0 hz1 ah oQ ah ah (jU cb) hS1 (hr _ hS1.drop.drop.drop) h63 hby ?_
 intro v2 w2 hS2 _
 refine hK _ _ (.inl rfl) ?_
 clear hK K
 refine fP (i:=5) (v:=?_) rfl au (fun _ _ _ h=>h) (Or.inl ⟨by rfl,?_⟩) ?_;rotate_left;focus ((intro wq;go_simp);first|done|(with_reducible rfl))
 refine cu au ?_
 go_wp2
 go_ret
 have h9:=hS2.sel 3 [0] rfl rfl
 have hsh:=hS2.rd
 obtain ⟨a2,n2,c2,rfl,_⟩:=hsh
 refine ⟨_,rfl,?_,_,_,_,rfl⟩
 unfold aK
 rw [jQ]
 exact h9
end
section
variable {w0 w:World}{F:List aC}{m fb nb b:Nat}{M:aB}{bs:List Nat}{wv v bv:Value}{s:ByteArray}{l:Bs}{f:bD}
def Oe (c:iF) (l:Bs):Prop:=(c.cut=true→c.n≤l.length)∧(c.cut=false→l.length+c.b.length≤140737488355328)
theorem Yt (c:iF) (h:Sat w0 w (aK v l::F)) (hr:Ro w0 F (bK 1 bv (ay c.b))) (hbv:∃ a n c,bv = .slice a n c) (hc:Oe c l) :
  Calls Tryz.prog 236 #[Ie c bv,v] w (aI fun v' w'=>Sat w0 w' (aK v' (c.on l)::F)∧∃ a n c,v' = .slice a n c):=by
 obtain ⟨cut,n,cb⟩:=c
 cases cut
 ·exact Yr n bv cb h hr (hc.2 rfl) hbv
 ·exact Yu n bv h (hc.1 rfl)
theorem H9 (h:Sat w0 w (aK v l::F)):∃ a n c,v = .slice a n c:=by
 obtain ⟨a,n,c,rfl,_⟩:=h.rd
 exact ⟨a,n,c,rfl⟩
theorem Ro.aK {R:List aC} (v:Value) (l:Bs):Ro w0 (aK v l::R) (bK 1 v (ay l)):=fun w hw=>hw.rd
theorem aaP:(Tryz.prog.info? 128).map (fun i=>(i.zero,i.size,i.bytes))=some (some (.agg #[.bool false,.int .i64 0,.slice none 0 0]),3,40):=by kernel_rfl
theorem Yv (ws:List (iF×Value)) (p:iF×Value):su (ws++[p])=star (su ws) (aK p.2 p.1.b):=by
 unfold su
 rw [List.map_append,pX]
 simp [FH]
theorem YU {fv nv:Value}{ws:List (iF×Value)} (c:iF) (h:Sat w0 w (Ai b f fv nv wv ws++aK bv c.b::F)) (hws:ws.map (·.1)=f.waits) (hc:Oe c f.now) (hw:f.waits.length≤1099511627776) :
  Calls Tryz.prog 205 #[ptr b,Ie c bv] w (aI fun _ w'=>Sat w0 w' (jT b (f.do c)::F)):=by
 obtain ⟨i,hi,hz0,hz1,hz2⟩:=info_parts aaP
 obtain ⟨ba,bn,bc,rfl⟩:=H9 (h.sel 6 [5] rfl rfl)
 have hb:=h.alloc (.cells #[.bool c.cut,.int .i64 c.n,.slice ba bn bc] 128)
 have hb':Sat w0 _ (aK nv f.now::aK (.slice ba bn bc) c.b::pt w.heap.size _::zB b fv nv wv::aK fv f.fast::aF 128 3 wv (ws.flatMap tY)::su ws::F):=hb.sel 7 [3,6,0,1,2,4,5] rfl rfl
 have hon:=Yt c hb'.drew (Ro.aK _ _) ⟨_,_,_,rfl⟩ hc
 obtain ⟨na,nn,nc,rfl⟩:=H9 hb'
 have b0:=hb.cellAt 0 _ rfl
 have b1:=hb.cellAt 1 _ rfl
 have b2:=hb.cellAt 2 _ rfl
 have c1:=hb.aP.cellAt 1 _ rfl
 have hoc:∀ u∈(#[.bool c.cut,.int .i64 c.n,.slice ba bn bc]:Array Value).toList,u.oneCell'=true:=by
  intro u hu
  simp only [List.mem_cons,List.not_mem_nil,or_false]at hu
  rcases hu with rfl|rfl|rfl <;> rfl
 have hwl:ws.length=f.waits.length:=by rw [← hws];simp
 have hlen:(ws.flatMap tY).length=f.waits.length * 3:=by
  rw [List.length_flatMap,← hwl];simp [tY,List.map_const']
 have h63:(ws.flatMap tY).length+3≤maxLen:=by unfold maxLen;omega
 have hby:((ws.flatMap tY).length+3) * i.bytes≤140737488355328:=by rw [hz2];omega
 have Hlen:=uQ hlen;clear hlen
 have Hws:=uQ hws;clear hws
 have Hwl:=uQ hwl;clear hwl
 unfold Ie at *
 go_enter Tryz.func205,Tryz.ntmps205
 go_wp2_with fail
 refine dh [6,7,8,9] (fun w'=>w'.cell? ⟨b,1,none⟩=some (.slice na nn nc)∧w'.cell? ⟨w.heap.size,0,none⟩=some (.bool c.cut)∧w'.cell? ⟨w.heap.size,1,none⟩=some (.int .i64 c.n)∧w'.cell? ⟨w.heap.size,2,none⟩=some (.slice ba bn bc)) au ?_
 have hG:=And.intro c1 (And.intro b0 (And.intro b1 b2))
 refine fP (i:=0) (v:=?_) rfl au (fun _ _ _ h=>h) (Or.inl ⟨by rfl,?_⟩) ?_;rotate_left;focus ((intro wq;go_simp);first|done|(with_reducible rfl))
 refine qc (i:=1) (v:=?_) rfl au (fun _ _ _ h=>h) (Or.inl ⟨by rfl,?_⟩) aQ ?_;rotate_left;focus ((intro wq hq;go_split_ands;go_simp);first|done|(with_reducible rfl))
 refine fP (i:=2) (v:=?_) rfl au (fun _ _ _ h=>h) (Or.inl ⟨by rfl,?_⟩) ?_;rotate_left;focus ((intro wq;go_simp);first|done|(with_reducible rfl))
 refine fP (i:=3) (v:=?_) rfl au (fun _ _ _ h=>h) (Or.inl ⟨by rfl,?_⟩) ?_;rotate_left;focus ((intro wq;go_simp);first|done|(with_reducible rfl))
 refine fP (i:=4) (v:=?_) rfl au (fun _ _ _ h=>h) (Or.inl ⟨by rfl,?_⟩) ?_;rotate_left;focus ((intro wq;go_simp);first|done|(with_reducible rfl))
 refine qc (i:=5) (v:=?_) rfl au (fun _ _ _ h=>h) (Or.inl ⟨by rfl,?_⟩) aQ ?_;rotate_left;focus ((intro wq hq;go_split_ands;go_simp);first|done|(with_reducible rfl))
 refine ou (i:=6) rfl au (fun K hK=>?_)
 go_simp
 refine hon.mono ?_
 rintro e w1 ⟨v1,rfl,hS1,a1,n1,k1,rfl⟩
 refine hK _ _ (.inl rfl) ?_
 clear hK K
 refine fP (i:=7) (v:=?_) rfl au (fun _ _ _ h=>h) (Or.inl ⟨by rfl,?_⟩) ?_;rotate_left;focus ((intro wq;go_simp);first|done|(with_reducible rfl))
 refine fP (i:=8) (v:=?_) rfl au (fun _ _ _ h=>h) (Or.inl ⟨by rfl,?_⟩) ?_;rotate_left;focus ((intro wq;go_simp);first|done|(with_reducible rfl))
 have d1:=hS1.iy.cellAt 1 _ rfl
 have g1:=hS1.iy.nY 1
 refine ou (i:=9) rfl au (fun K hK=>?_)
 go_simp
 refine hK _ _ (.inl rfl) ?_
 clear hK K hG
 refine cu au ?_
 have hS2:=hS1.iy.set 1 (.slice a1 n1 k1)
 generalize w1.setCell _ _=w2 at *
 clear d1 g1
 have d2:=hS2.cellAt 2 _ rfl
 have b0:=hS2.iy.cellAt 0 _ rfl
 have b1:=hS2.iy.cellAt 1 _ rfl
 have b2:=hS2.iy.cellAt 2 _ rfl
 go_wp2_with fail
 refine dh [7,8,9,10] (fun w'=>w'.cell? ⟨b,2,none⟩=some wv∧w'.cell? ⟨w.heap.size,0,none⟩=some (.bool c.cut)∧w'.cell? ⟨w.heap.size,1,none⟩=some (.int .i64 c.n)∧w'.cell? ⟨w.heap.size,2,none⟩=some (.slice ba bn bc)) au ?_
 have hG:=And.intro d2 (And.intro b0 (And.intro b1 b2))
 refine fP (i:=0) (v:=?_) rfl au (fun _ _ _ h=>h) (Or.inl ⟨by rfl,?_⟩) ?_;rotate_left;focus ((intro wq;go_simp);first|done|(with_reducible rfl))
 refine fP (i:=1) (v:=?_) rfl au (fun _ _ _ h=>h) (Or.inl ⟨by rfl,?_⟩) ?_;rotate_left;focus ((intro wq;go_simp);first|done|(with_reducible rfl))
 refine fP (i:=2) (v:=?_) rfl au (fun _ _ _ h=>h) (Or.inl ⟨by rfl,?_⟩) ?_;rotate_left;focus ((intro wq;go_simp);first|done|(with_reducible rfl))
 refine fP (i:=3) (v:=?_) rfl au (fun _ _ _ h=>h) (Or.inl ⟨by rfl,?_⟩) ?_;rotate_left;focus ((intro wq;go_simp);first|done|(with_reducible rfl))
 refine qc (i:=4) (v:=?_) rfl au (fun _ _ _ h=>h) (Or.inl ⟨by rfl,?_⟩) aQ ?_;rotate_left;focus ((intro wq hq;go_split_ands;go_simp);first|done|(with_reducible rfl))
 refine qc (i:=5) (v:=?_) rfl au (fun _ _ _ h=>h) (Or.inl ⟨by rfl,?_⟩) aQ ?_;rotate_left;focus ((intro wq hq;go_split_ands;go_simp);first|done|(with_reducible rfl))
 refine ou (i:=6) rfl au (fun K hK=>?_)
 go_simp
 have h7:=hS2.drew.alloc (.cells #[.bool c.cut,.int .i64 c.n,.slice ba bn bc] 128)
 have d2:=h7.aP.cellAt 2 _ rfl
 have b0:=h7.ny.cellAt 0 _ rfl
 have b1:=h7.ny.cellAt 1 _ rfl
 have b2:=h7.ny.cellAt 2 _ rfl
 refine hK _ _ (.inr <| .inl <| And.intro d2 (And.intro b0 (And.intro b1 b2))) ?_
 clear hK K
 have h8:Sat w0 _ (aF 128 3 wv (ws.flatMap tY)::zB b fv (.slice a1 n1 k1) wv::aK (.slice a1 n1 k1) (c.on f.now)::aK (.slice ba bn bc) c.b::aK fv f.fast::su ws::pt w.heap.size _::F):=h7.sel 8 [6,1,2,3,5,7,4] rfl rfl
 refine ou (i:=7) rfl au (fun K hK=>?_)
 refine step_append (w0:=w0) ah _ _ _ ah _ i _ Tryz.underlying74 hi hz0 hz1 ah oQ ah ah hoc h8 (yE _ _ _ 3 1 1 ah) h63 hby ?_
 intro v2 w3 hS3 hne
 obtain ⟨g2,n2,k2,rfl⟩:=hne (by simp)
 have e2:=hS3.aP.cellAt 2 _ rfl
 have g3:=hS3.aP.nY 2
 have b0:=(hS3.sel 7 [6] rfl rfl).cellAt 0 _ rfl
 have b1:=(hS3.sel 7 [6] rfl rfl).cellAt 1 _ rfl
 have b2:=(hS3.sel 7 [6] rfl rfl).cellAt 2 _ rfl
 refine hK _ _ (.inl rfl) ?_
 clear hK K
 refine fP (i:=8) (v:=?_) rfl au (fun _ _ _ h=>h) (Or.inl ⟨by rfl,?_⟩) ?_;rotate_left;focus ((intro wq;go_simp);first|done|(with_reducible rfl))
 refine fP (i:=9) (v:=?_) rfl au (fun _ _ _ h=>h) (Or.inl ⟨by rfl,?_⟩) ?_;rotate_left;focus ((intro wq;go_simp);first|done|(with_reducible rfl))
 refine ou (i:=10) rfl au (fun K hK=>?_)
 go_simp
 refine hK _ _ (.inl rfl) ?_
 clear hK K
 refine cu au ?_
 go_wp2
 go_end0
 refine ⟨_,rfl,?_⟩
 have h9:=hS3.aP.set 2 (.slice (some ⟨g2,0,none⟩) n2 k2)
 refine jT.shut (fv:=fv) (nv:= .slice a1 n1 k1) (wv:= .slice (some ⟨g2,0,none⟩) n2 k2) (ws:=ws++[(c,.slice ba bn bc)]) ?_ ?_
 ·rw [List.map_append,Hws.out];rfl
 ·have h10:Sat w0 _ (aK (.slice ba bn bc) c.b::su ws::zB b fv (.slice a1 n1 k1) (.slice (some ⟨g2,0,none⟩) n2 k2)::aK fv f.fast::aK (.slice a1 n1 k1) (c.on f.now)::aF 128 3 (.slice (some ⟨g2,0,none⟩) n2 k2) (ws.flatMap tY++[.bool c.cut,.int .i64 c.n,.slice ba bn bc])::F):=h9.sel 7 [3,5,0,4,2,1] rfl rfl
  have h11:=Sat.star.2 h10.aP
  rw [← Yv ws (c,.slice ba bn bc)]at h11
  unfold Ai
  rw [List.flatMap_append]
  simp only [List.flatMap_cons,List.flatMap_nil,List.append_nil,tY]
  exact h11.sel 5 [1,2,3,4,0] rfl rfl
end
section
variable {w:World}{s:ByteArray}
theorem ZT (c:UInt8):pO c=decide ((97≤(c.toNat:Int)∧(c.toNat:Int)≤122)∨(48≤(c.toNat:Int)∧(c.toNat:Int)≤57)∨(c.toNat:Int)=46∨(c.toNat:Int)=45):=by
 rw [Bool.eq_iff_iff]
 have e1:∀ k:UInt8,(c==k)=decide (c.toNat=k.toNat):=fun k=>by
  rw [Bool.eq_iff_iff];simp [UInt8.toNat_inj]
 simp only [pO,Bool.or_eq_true,Bool.and_eq_true,decide_eq_true_eq,UInt8.le_iff_toNat_le,e1]
 simp only [UInt8.reduceToNat]
 omega
theorem XO (l:List UInt8) (k:Nat) (h:k<l.length):(l.take (k+1)).all pO=((l.take k).all pO && pO l[k]):=by
 rw [List.take_succ_eq_append_getElem h,List.all_append];simp
theorem ZU (s:ByteArray) (w:World) (hs:s.size≤9223372036854775807) :
  Calls Tryz.prog 207 #[.string s] w (aI fun v w'=>v = .bool (good s)∧w=w'):=by
 go_enter Tryz.func207,Tryz.ntmps207
 by_cases h1:(s.size:Int)<1
 ·go_wp2
  go_ret
  exact ⟨.bool false,rfl,by rw [show good s=false from by unfold good;simp;omega],rfl⟩
 by_cases h2:24<(s.size:Int)
 ·have h1':decide ((s.size:Int)<1)=false:=by simpa using h1
  go_wp2
  go_ret
  exact ⟨.bool false,rfl,by rw [show good s=false from by unfold good;simp;omega],rfl⟩
 have h1':decide ((s.size:Int)<1)=false:=by simpa using h1
 have h2':decide (24<(s.size:Int))=false:=by simpa using h2
 go_wp2
 go_loop [15] (fun i=>∃ k:Nat,k≤s.size∧i = .int .i64 k∧(s.data.toList.take k).all pO=true) (fun i=>s.size - (intOf i).toNat)
 case atStart=>exact ⟨0,Nat.zero_le _,rfl,by simp⟩
 case round=>
  obtain ⟨k,hk,rfl,hall⟩:=hrel
  have yS:=uQ hall;clear hall
  by_cases hlt:k<s.size
  ·have Hc:=uQ (ZT s[k])
   have Hn:=uQ (XO s.data.toList k (by simpa using hlt))
   have hcls:(s[k].toNat:Int)≤44∨(s[k].toNat:Int)=45∨(s[k].toNat:Int)=46∨(s[k].toNat:Int)=47∨(48≤(s[k].toNat:Int)∧(s[k].toNat:Int)≤57)∨(58≤(s[k].toNat:Int)∧(s[k].toNat:Int)≤96)∨(97≤(s[k].toNat:Int)∧(s[k].toNat:Int)≤122)∨123≤(s[k].toNat:Int):=by omega
   have hbad:pO s[k]=false→good s=false:=by
    intro hgc
    unfold good
    have:s.data.toList.all pO=false:=by
     rw [List.all_eq_false]
     exact ⟨s[k],by exact List.getElem_mem (by simpa using hlt),by simpa using hgc⟩
    rw [this];simp
   have tJ:=uQ hbad;clear hbad
   have hgd:pO s[k]=true→(s.data.toList.take (k+1)).all pO=true:=by
    intro hgc
    rw [Hn.out,yS.out]
    exact hgc
   have DC:=uQ hgd;clear hgd
   rcases hcls with g1|g1|g1|g1|⟨g1,g2⟩|⟨g1,g2⟩|⟨g1,g2⟩|g1
   ·have G8:((s[k].toNat:Int)==46)=false:=by rw [beq_eq_false_iff_ne];omega
    have G7:((s[k].toNat:Int)==45)=false:=by rw [beq_eq_false_iff_ne];omega
    go_wp2
    go_ret
    exact ⟨.bool false,rfl,by rw [tJ.out (by rw [Hc.out];simp;omega)],rfl⟩
   ·go_wp2
    go_round
    case rel=>exact ⟨k+1,by omega,by go_num,DC.out (by rw [Hc.out];simp;omega)⟩
    case measure=>simp [intOf];omega
   ·go_wp2
    go_round
    case rel=>exact ⟨k+1,by omega,by go_num,DC.out (by rw [Hc.out];simp;omega)⟩
    case measure=>simp [intOf];omega
   ·have G8:((s[k].toNat:Int)==46)=false:=by rw [beq_eq_false_iff_ne];omega
    have G7:((s[k].toNat:Int)==45)=false:=by rw [beq_eq_false_iff_ne];omega
    go_wp2
    go_ret
    exact ⟨.bool false,rfl,by rw [tJ.out (by rw [Hc.out];simp;omega)],rfl⟩
   ·go_wp2
    go_round
    case rel=>exact ⟨k+1,by omega,by go_num,DC.out (by rw [Hc.out];simp;omega)⟩
    case measure=>simp [intOf];omega
   ·have X9:decide ((s[k].toNat:Int)≤57)=false:=by simp;omega
    have G8:((s[k].toNat:Int)==46)=false:=by rw [beq_eq_false_iff_ne];omega
    have G7:((s[k].toNat:Int)==45)=false:=by rw [beq_eq_false_iff_ne];omega
    go_wp2
    go_ret
    exact ⟨.bool false,rfl,by rw [tJ.out (by rw [Hc.out];simp;omega)],rfl⟩
   ·go_wp2
    go_round
    case rel=>exact ⟨k+1,by omega,by go_num,DC.out (by rw [Hc.out];simp;omega)⟩
    case measure=>simp [intOf];omega
   ·have ahA:decide ((s[k].toNat:Int)≤122)=false:=by simp;omega
    have X9:decide ((s[k].toNat:Int)≤57)=false:=by simp;omega
    have G8:((s[k].toNat:Int)==46)=false:=by rw [beq_eq_false_iff_ne];omega
    have G7:((s[k].toNat:Int)==45)=false:=by rw [beq_eq_false_iff_ne];omega
    go_wp2
    go_ret
    exact ⟨.bool false,rfl,by rw [tJ.out (by rw [Hc.out];simp;omega)],rfl⟩
  ·go_wp2
   go_ret
   refine ⟨.bool true,rfl,?_,rfl⟩
   have:k=s.size:=by omega
   subst this
   have:=yS.out
   rw [List.take_of_length_le (by simp)]at this
   rw [show good s=true from by unfold good;simp only [this];simp;omega]
end
end Go.Proofs.YtlimfgdbfadohaaGreatDoor
