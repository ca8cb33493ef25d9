import Derived.Sort.Walk0
import Derived.WalkKit
import Derived.Maps.OwnSet
import Derived.Lib.Hide
import Derived.Maps.RangeWalk
import Derived.Maps.AppendAt
import Derived.Test.YtlimfgdbfadohaaGreatDoorChecked
import Derived.WalkLawsBesides
import Derived.WalkSpells
import Derived.OrdersHeld
import Derived.Deep.RegionHeld3
import Derived.Deep.DrawnRows
import Derived.Test.YtlimfgdbfadohaaGreatDoorShelf
import Derived.Deep.LoopGhost
namespace Go
open Go
theorem rQ {p : Prop} (h : p := by rfl) : p := h
theorem kQ {p : Prop} (h : p := by kernel_rfl) : p := h
theorem aQ {p : Prop} (h : p := by assumption) : p := h
theorem oQ {p : Prop} (h : p := by omega) : p := h
theorem iwQ {i : Nat} (h : -9223372036854775808 ≤ ((i : Int) + 1) ∧ ((i : Int) + 1) ≤ 9223372036854775807 := by omega) : IntKind.i64.wrap ((i : Int) + 1) = (i : Int) + 1 := by rw [IntKind.wrap_i64]; omega
theorem iQ {p : Prop} (h : p := by intro _ _ _ h; exact h) : p := h
theorem dQ {p : Prop} (h : p := by decide) : p := h
theorem bQ {a b : Nat} (h : Nat.ble a b = true := by rfl) : a ≤ b := Nat.le_of_ble_eq_true h
theorem uQ {p : Prop} (h : p) : RowKit.Hid p := Lib.hid h
end Go
set_option linter.unusedVariables false
set_option maxHeartbeats 128000000
theorem kRz {p:Prop} (h:p:=by kernel_rfl):p:=h
theorem rFz {p:Prop} (h:p:=by rfl):p:=h
theorem dCz {p:Prop} (h:p:=by decide):p:=h
theorem i3z {p:Prop} (h:p:=by intro _ _ _ h;exact h):p:=h
theorem nLz {p:Prop} (h:p:=by exact Nat.le_of_ble_eq_true rQ):p:=h
namespace Go.Frm
abbrev Bs:=List UInt8
def half:List Nat:=[0,498536548,997073096,651767980,1994146192,1802195444,1303535960,1342533948,3988292384,4027552580,3604390888,3412177804,2607071920,2262029012,2685067896,3183342108]
def fold4 (x:Nat):Nat:=(x / 16) ^^^ half.getD (x%16) 0
def crcStep (x:Nat) (c:UInt8):Nat:=fold4 (fold4 (x ^^^ c.toNat))
def crcAdd (s:Nat) (b:Bs):Nat:=4294967295 - b.foldl crcStep (4294967295 - s)
def crc (b:Bs):Nat:=crcAdd 0 b
theorem half_lt:∀ i,half.getD i 0<4294967296:=by
 intro i
 rw [List.getD_eq_getElem?_getD]
 cases h:half[i]? with
 |none=>simp
 |some x=>
  have:x∈half:=List.mem_of_getElem? h
  have h2:∀ y∈half,y<4294967296:=by decide
  exact h2 x this
theorem xor_lt {a b:Nat} (ha:a<4294967296) (hb:b<4294967296):a ^^^ b<4294967296:=Nat.xor_lt_two_pow (n:=32) ha hb
theorem fold4_lt {x:Nat} (h:x<4294967296):fold4 x<4294967296:=xor_lt oQ (half_lt _)
theorem crcStep_lt {x:Nat} (h:x<4294967296) (c:UInt8):crcStep x c<4294967296:=fold4_lt (fold4_lt (xor_lt h (by have:=c.toNat_lt;omega)))
theorem foldl_lt:∀ (b:Bs) (x:Nat),x<4294967296→b.foldl crcStep x<4294967296
 |[],_,h=>h
 |c::b,x,h=>foldl_lt b _ (crcStep_lt h c)
theorem crc_lt (b:Bs):crc b<4294967296:=by unfold crc crcAdd;omega
def le (x:Nat):Nat→Bs
 |0=>[]
 |n+1=>UInt8.ofNat (x%256)::le (x / 256) n
def num:Bs→Nat
 |[]=>0
 |c::b=>c.toNat+256 * num b
theorem le_len (x n:Nat):(le x n).length=n:=by
 induction n generalizing x with
 |zero=>rfl
 |succ n ih=>simp [le,ih]
theorem num_le (n:Nat):∀ x,x<256^n→num (le x n)=x:=by
 induction n with
 |zero=>intro x h;simp at h;subst h;rfl
 |succ n ih=>
  intro x h
  show (UInt8.ofNat (x%256)).toNat+256 * num (le (x / 256) n)=x
  rw [ih (x / 256) (by rw [Nat.div_lt_iff_lt_mul oQ];rw [Nat.pow_succ]at h;exact h),UInt8.toNat_ofNat']
  omega
theorem num_lt:∀ b:Bs,num b<256^b.length
 |[]=>by simp [num]
 |c::b=>by
  have h1:=num_lt b
  have h2:=c.toNat_lt
  show c.toNat+256 * num b<256^(b.length+1)
  rw [Nat.pow_succ]
  omega
structure Ent where
 tag:Int
 key:Bs
 data:Bs
def zero32:Bs:=List.replicate 32 0
def check (x:Ent):Int:=
 if x.tag=0 then (if 16384<x.data.length then 5 else 0)
 else if x.tag=2 then (if x.key≠zero32 then 4 else if 0<x.data.length then 4 else if 16384<x.data.length then 5 else 0)
 else if x.tag=1 then (if 0<x.data.length then 4 else if 16384<x.data.length then 5 else 0)
 else 4
def size (x:Ent):Nat:=if check x≠0 then 0 else if x.tag=2 then 9 else 41+x.data.length
def body (x:Ent):Bs:=le (size x) 4++[UInt8.ofNat x.tag.toNat]++(if x.tag=2 then [] else x.key)++x.data
def encode (x:Ent):Bs×Int:=if check x≠0 then ([],check x) else (le (crc (body x)) 4++body x,0)
def zeroE:Ent:=⟨0,zero32,[]⟩
def fits (tag:UInt8) (n:Nat):Bool:=
 if tag=0 then decide (41≤n∧n≤16425) else if tag=1 then decide (n=41) else if tag=2 then decide (n=9) else false
def read (b:Bs):Ent×Nat×Int:=
 if b.length<9 then (zeroE,0,3)
 else
  let n:=num ((b.drop 4).take 4)
  if fits (b.getD 8 0) n=false then (zeroE,0,4)
  else if b.length<n then (zeroE,0,3)
  else if crc ((b.take n).drop 4)≠num (b.take 4) then (zeroE,0,13)
  else if 41≤n then (⟨(b.getD 8 0).toNat,(b.drop 9).take 32,(b.take n).drop 41⟩,n,0)
  else (⟨(b.getD 8 0).toNat,zero32,[]⟩,n,0)
end Go.Frm
namespace Go.Tab
open Go.Frm (Bs num)
structure Slot (V:Type) where
 st:Nat
 key:Bs
 val:V
def home (k:Bs) (c:Nat):Nat:=num (k.take 4)%c
def pos (k:Bs) (c d:Nat):Nat:=(home k c+d)%c
section
variable {V:Type}{s s':List (Slot V)}{x y:Slot V}{k l:Bs}{v u:V}{d e i j c:Nat}
def Slot.stop (x:Slot V) (k:Bs):Prop:=x.st=0∨(x.st=1∧x.key=k)
instance (x:Slot V) (k:Bs):Decidable (x.stop k):=by unfold Slot.stop;infer_instance
def stopAt (s:List (Slot V)) (k:Bs) (i:Nat):Prop:=∃ x,s[i]?=some x∧x.stop k
structure Ends (s:List (Slot V)) (k:Bs) (d:Nat):Prop where
 lt:d<s.length
 here:stopAt s k (pos k s.length d)
 no:∀ e,e<d→¬ stopAt s k (pos k s.length e)
structure Good (s:List (Slot V)):Prop where
 pow:∃ j,s.length=2^j∧3≤j
 st:∀ x∈s,x.st≤2
 key:∀ x∈s,x.key.length=32
 reach:∀ i x,s[i]?=some x→x.st=1→∃ d,d<s.length∧pos x.key s.length d=i∧∀ e,e<d→¬ stopAt s x.key (pos x.key s.length e)
def Has (s:List (Slot V)) (k:Bs) (v:V):Prop:=∃ (i:Nat) (x:Slot V),s[i]?=some x∧x.st=1∧x.key=k∧x.val=v
theorem Good.pos_len (h:Good s):0<s.length:=by
 obtain ⟨j,h1,_⟩:=h.pow
 rw [h1];exact Nat.two_pow_pos j
theorem pos_lt (h:0<c):pos k c d<c:=Nat.mod_lt _ h
theorem home_lt (h:0<c):home k c<c:=Nat.mod_lt _ h
theorem pos_next (h:0<c):(pos k c d+1)%c=pos k c (d+1):=by
 unfold pos
 rw [Nat.mod_add_mod,Nat.add_assoc]
theorem pos_zero (h:0<c):pos k c 0=home k c:=by
 unfold pos
 rw [Nat.add_zero];exact Nat.mod_eq_of_lt (home_lt h)
theorem pos_all (h:i<c):∃ d,d<c∧pos k c d=i:=by
 have hc:0<c:=by omega
 have hh:home k c<c:=home_lt hc
 by_cases hi:home k c≤i
 ·refine ⟨i - home k c,by omega,?_⟩
  unfold pos
  rw [show home k c+(i - home k c)=i by omega]
  exact Nat.mod_eq_of_lt h
 ·refine ⟨i+c - home k c,by omega,?_⟩
  unfold pos
  rw [show home k c+(i+c - home k c)=i+c by omega,Nat.add_mod_right]
  exact Nat.mod_eq_of_lt h
theorem pos_inj (hd:d<c) (he:e<c) (h:pos k c d=pos k c e):d=e:=by
 have hc:0<c:=by omega
 have hh:home k c<c:=home_lt hc
 unfold pos at h
 have f:∀ d,d<c→(home k c+d)%c=if home k c+d<c then home k c+d else home k c+d - c:=fun d hd=>by
  split
  ·exact Nat.mod_eq_of_lt ‹_›
  ·rw [Nat.mod_eq_sub_mod oQ];exact Nat.mod_eq_of_lt oQ
 rw [f d hd,f e he]at h
 split at h <;> split at h <;> omega
theorem least {p:Nat→Prop}:∀ (n:Nat),(∃ d,d<n∧p d)→∃ d,d<n∧p d∧∀ e,e<d→¬ p e
 |0,h=>by obtain ⟨d,hd,_⟩:=h;omega
 |n+1,h=>by
  by_cases h1:∃ d,d<n∧p d
  ·obtain ⟨d,h2,h3,h4⟩:=least n h1
   exact ⟨d,by omega,h3,h4⟩
  ·obtain ⟨d,h2,h3⟩:=h
   refine ⟨d,h2,h3,fun e he h5=>h1 ⟨e,by omega,h5⟩⟩
theorem ends_of (h:Good s) (hf:∃ x∈s,x.st=0):∃ d,Ends s k d:=by
 obtain ⟨x,hx,h0⟩:=hf
 obtain ⟨i,hi,he⟩:=List.getElem_of_mem hx
 obtain ⟨d,h1,h2⟩:=pos_all (k:=k) hi
 obtain ⟨d',a,b,c⟩:=least (p:=fun d=>stopAt s k (pos k s.length d)) s.length ⟨d,h1,by rw [h2];exact ⟨x,by rw [List.getElem?_eq_getElem hi,he],.inl h0⟩⟩
 exact ⟨d',a,b,c⟩
theorem Ends.unique (h:Ends s k d) (h':Ends s k e):d=e:=by
 rcases Nat.lt_trichotomy d e with q|q|q
 ·exact absurd h.here (h'.no d q)
 ·exact q
 ·exact absurd h'.here (h.no e q)
theorem Good.ends (h:Good s) (hi:s[i]?=some x) (hf:x.st=1):∃ d,Ends s x.key d∧pos x.key s.length d=i:=by
 obtain ⟨d,h1,h2,h3⟩:=h.reach i x hi hf
 exact ⟨d,⟨h1,⟨x,by rw [h2];exact hi,.inr ⟨hf,rfl⟩⟩,h3⟩,h2⟩
theorem Ends.slot (h:Ends s k d):∃ x,s[pos k s.length d]?=some x∧x.stop k:=h.here
theorem ends_full (he:Ends s k d) (hx:s[pos k s.length d]?=some x) (hf:x.st=1):x.key=k∧Has s k x.val:=by
 obtain ⟨y,hy,hs⟩:=he.here
 rw [hx]at hy;cases hy
 rcases hs with h|⟨_,h⟩
 ·omega
 ·exact ⟨h,_,x,hx,hf,h,rfl⟩
theorem ends_empty (g:Good s) (he:Ends s k d) (hx:s[pos k s.length d]?=some x) (hf:x.st≠1):x.st=0∧∀ v,¬ Has s k v:=by
 obtain ⟨y,hy,hs⟩:=he.here
 rw [hx]at hy;cases hy
 refine ⟨?_,fun v hv=>?_⟩
 ·rcases hs with h|⟨h,_⟩
  ·exact h
  ·exact absurd h hf
 ·obtain ⟨i,z,hz,h1,rfl,_⟩:=hv
  obtain ⟨d',h2,h3⟩:=g.ends hz h1
  obtain rfl:=he.unique h2
  rw [h3,hz]at hx;cases hx
  exact hf h1
theorem Good.one (g:Good s) (hx:s[i]?=some x) (hy:s[j]?=some y) (h1:x.st=1) (h2:y.st=1) (hk:x.key=y.key):i=j:=by
 obtain ⟨d,a,b⟩:=g.ends hx h1
 obtain ⟨e,a',b'⟩:=g.ends hy h2
 rw [← hk]at a' b'
 obtain rfl:=a.unique a'
 rw [← b,← b']
theorem set_at (hi:i<s.length):(s.set i x)[i]?=some x:=by rw [List.getElem?_set_self hi]
theorem set_ne (h:i≠j):(s.set i x)[j]?=s[j]?:=List.getElem?_set_ne h
theorem put_found (g:Good s) (he:Ends s k d) (hx:s[pos k s.length d]?=some x) (hf:x.st=1) (v:V) :
  Good (s.set (pos k s.length d) ⟨x.st,x.key,v⟩)∧∀ k' v',Has (s.set (pos k s.length d) ⟨x.st,x.key,v⟩) k' v'↔if k'=k then v'=v else Has s k' v':=by
 obtain ⟨hk,_⟩:=ends_full he hx hf
 have hlt:pos k s.length d<s.length:=pos_lt g.pos_len
 generalize hp:pos k s.length d=p at *
 have hst:∀ q l,stopAt (s.set p ⟨x.st,x.key,v⟩) l q↔stopAt s l q:=fun q l=>by
  unfold stopAt
  by_cases h:p=q
  ·subst h
   rw [set_at hlt,hx]
   constructor
   ·rintro ⟨y,hy,hs⟩;cases hy;exact ⟨x,rfl,hs⟩
   ·rintro ⟨y,hy,hs⟩;cases hy;exact ⟨_,rfl,hs⟩
  ·rw [set_ne h]
 have hmem:x∈s:=List.mem_of_getElem? hx
 refine ⟨⟨by rw [List.length_set];exact g.pow,fun y hy=>?_,fun y hy=>?_,fun q y hq hy=>?_⟩,fun k' v'=>?_⟩
 ·rcases List.mem_or_eq_of_mem_set hy with h|rfl
  ·exact g.st y h
  ·exact g.st x hmem
 ·rcases List.mem_or_eq_of_mem_set hy with h|rfl
  ·exact g.key y h
  ·exact g.key x hmem
 ·rw [List.length_set]
  by_cases h:p=q
  ·subst h
   rw [set_at hlt]at hq;cases hq
   obtain ⟨d',a,b,c⟩:=g.reach p x hx hf
   exact ⟨d',a,b,fun e h hh=>c e h ((hst _ _).1 hh)⟩
  ·rw [set_ne h]at hq
   obtain ⟨d',a,b,c⟩:=g.reach q y hq hy
   exact ⟨d',a,b,fun e h hh=>c e h ((hst _ _).1 hh)⟩
 ·constructor
  ·rintro ⟨q,y,hq,h1,h2,h3⟩
   by_cases h:p=q
   ·subst h
    rw [set_at hlt]at hq;cases hq
    rw [if_pos (h2.symm.trans hk)];exact h3.symm
   ·rw [set_ne h]at hq
    rw [if_neg fun hkk:k'=k=>h (g.one hx hq hf h1 (hk.trans (hkk.symm.trans h2.symm)))]
    exact ⟨q,y,hq,h1,h2,h3⟩
  ·intro h
   split at h
   ·rename_i hkk
    exact ⟨p,_,set_at hlt,hf,hk.trans hkk.symm,h.symm⟩
   ·rename_i hkk
    obtain ⟨q,y,hq,h1,h2,h3⟩:=h
    have:p≠q:=fun h=>by subst h;rw [hx]at hq;cases hq;exact hkk (h2.symm.trans hk)
    exact ⟨q,y,by rw [set_ne this];exact hq,h1,h2,h3⟩
theorem put_new (g:Good s) (he:Ends s k d) (hx:s[pos k s.length d]?=some x) (hf:x.st≠1) (hk:k.length=32) (v:V) :
  Good (s.set (pos k s.length d) ⟨1,k,v⟩)∧∀ k' v',Has (s.set (pos k s.length d) ⟨1,k,v⟩) k' v'↔if k'=k then v'=v else Has s k' v':=by
 obtain ⟨h0,hno⟩:=ends_empty g he hx hf
 have hlt:pos k s.length d<s.length:=pos_lt g.pos_len
 have hst:∀ q l,q≠pos k s.length d→(stopAt (s.set (pos k s.length d) ⟨1,k,v⟩) l q↔stopAt s l q):=fun q l h=>by
  unfold stopAt
  rw [set_ne (Ne.symm h)]
 have hp0:∀ l,stopAt s l (pos k s.length d):=fun l=>⟨x,hx,.inl h0⟩
 refine ⟨⟨by rw [List.length_set];exact g.pow,fun y hy=>?_,fun y hy=>?_,fun q y hq hy=>?_⟩,fun k' v'=>?_⟩
 ·rcases List.mem_or_eq_of_mem_set hy with h|rfl
  ·exact g.st y h
  ·exact (by decide:1≤2)
 ·rcases List.mem_or_eq_of_mem_set hy with h|rfl
  ·exact g.key y h
  ·exact hk
 ·rw [List.length_set]
  by_cases h:pos k s.length d=q
  ·subst h
   rw [set_at hlt]at hq;cases hq
   refine ⟨d,he.lt,rfl,fun e h=>?_⟩
   have hne:pos k s.length e≠pos k s.length d:=fun hh=>by have:=pos_inj (Nat.lt_trans h he.lt) he.lt hh;omega
   exact fun hh=>he.no e h ((hst _ _ hne).1 hh)
  ·rw [set_ne h]at hq
   obtain ⟨d',a,b,c⟩:=g.reach q y hq hy
   refine ⟨d',a,b,fun e h=>?_⟩
   have hne:pos y.key s.length e≠pos k s.length d:=fun hh=>c e h (by rw [hh];exact hp0 _)
   exact fun hh=>c e h ((hst _ _ hne).1 hh)
 ·constructor
  ·rintro ⟨q,y,hq,h1,h2,h3⟩
   by_cases h:pos k s.length d=q
   ·subst h
    rw [set_at hlt]at hq;cases hq
    rw [if_pos h2.symm];exact h3.symm
   ·rw [set_ne h]at hq
    rw [if_neg fun hkk:k'=k=>hno v' ⟨q,y,hq,h1,h2.trans hkk,h3⟩]
    exact ⟨q,y,hq,h1,h2,h3⟩
  ·intro h
   split at h
   ·rename_i hkk
    exact ⟨_,_,set_at hlt,rfl,hkk.symm,h.symm⟩
   ·obtain ⟨q,y,hq,h1,h2,h3⟩:=h
    have:pos k s.length d≠q:=fun h=>by subst h;rw [hx]at hq;cases hq;exact hf h1
    exact ⟨q,y,by rw [set_ne this];exact hq,h1,h2,h3⟩
def fulls (s:List (Slot V)):Nat:=s.countP fun x=>x.st==1
def used (s:List (Slot V)):Nat:=s.countP fun x=>x.st != 0
theorem set_count (p:Slot V→Bool):∀ (s:List (Slot V)) (i:Nat) (x y:Slot V),s[i]?=some x→(s.set i y).countP p+(if p x=true then 1 else 0)=s.countP p+(if p y=true then 1 else 0)
 |[],_,_,_,h=>by simp at h
 |a::s,0,x,y,h=>by
  obtain rfl:a=x:=by simpa using h
  rw [List.set_cons_zero,List.countP_cons,List.countP_cons];omega
 |a::s,i+1,x,y,h=>by
  rw [List.set_cons_succ,List.countP_cons,List.countP_cons]
  have:=set_count p s i x y (by simpa using h)
  omega
theorem free_of (h:used s<s.length):∃ x∈s,x.st=0:=by
 apply Classical.byContradiction
 intro hn
 have:used s=s.length:=by
  unfold used
  rw [List.countP_eq_length]
  intro x hx
  have:x.st≠0:=fun h0=>hn ⟨x,hx,h0⟩
  simpa using this
 omega
structure Tb (V:Type) where
 slots:List (Slot V)
 n:Nat
 gone:Nat
structure Tb.Ok (t:Tb V):Prop where
 good:Good t.slots
 n:t.n=fulls t.slots
 gone:t.n+t.gone=used t.slots
 load:4 * (t.n+t.gone)≤3 * t.slots.length
 size:t.slots.length≤8+4 * (t.n+t.gone)
theorem Tb.Ok.free {t:Tb V} (h:t.Ok):∃ x∈t.slots,x.st=0:=free_of (by have:=h.gone;have:=h.load;have:=h.good.pos_len;omega)
theorem Tb.Ok.ends {t:Tb V} (h:t.Ok) (k:Bs):∃ d,Ends t.slots k d:=ends_of h.good h.free
def Tb.Is (t:Tb V) (m:Bs→Option V):Prop:=∀ k v,Has t.slots k v↔m k=some v
def put (m:Bs→Option V) (k:Bs) (v:V):Bs→Option V:=fun l=>if l=k then some v else m l
theorem is_put {t:Tb V}{m:Bs→Option V} (hm:t.Is m) (h:∀ k' v',Has s' k' v'↔if k'=k then v'=v else Has t.slots k' v') (n g:Nat):(⟨s',n,g⟩:Tb V).Is (put m k v):=fun k' v'=>by
 rw [show (⟨s',n,g⟩:Tb V).slots=s' from rfl,h]
 unfold put
 split
 ·exact ⟨fun e=>by rw [e],fun e=>(Option.some.inj e).symm⟩
 ·exact hm k' v'
theorem put_old_ok {t:Tb V} (h:t.Ok) (he:Ends t.slots k d) (hx:t.slots[pos k t.slots.length d]?=some x) (hf:x.st=1) (v:V) :
  (⟨t.slots.set (pos k t.slots.length d) ⟨x.st,x.key,v⟩,t.n,t.gone⟩:Tb V).Ok:=by
 have h1:=set_count (fun x=>x.st==1) t.slots _ x ⟨x.st,x.key,v⟩ hx
 have h2:=set_count (fun x=>x.st != 0) t.slots _ x ⟨x.st,x.key,v⟩ hx
 refine ⟨(put_found h.good he hx hf v).1,?_,?_,by simp only [List.length_set];exact h.load,by simp only [List.length_set];exact h.size⟩
 ·have:=h.n;unfold fulls at *;simp only at *;omega
 ·have:=h.gone;unfold used at *;simp only at *;omega
theorem put_new_ok {t:Tb V} (h:t.Ok) (hl:4 * (t.n+t.gone+1)≤3 * t.slots.length) (he:Ends t.slots k d) (hx:t.slots[pos k t.slots.length d]?=some x) (hf:x.st≠1) (hk:k.length=32) (v:V) :
  (⟨t.slots.set (pos k t.slots.length d) ⟨1,k,v⟩,t.n+1,t.gone⟩:Tb V).Ok:=by
 have h0:=(ends_empty h.good he hx hf).1
 have h1:=set_count (fun x=>x.st==1) t.slots _ x ⟨1,k,v⟩ hx
 have h2:=set_count (fun x=>x.st != 0) t.slots _ x ⟨1,k,v⟩ hx
 refine ⟨(put_new h.good he hx hf hk v).1,?_,?_,?_,?_⟩
 ·have:=h.n;unfold fulls at *;simp [h0]at h1 ⊢;omega
 ·have:=h.gone;unfold used at *;simp [h0]at h2 ⊢;omega
 ·simp only [List.length_set];omega
 ·have:=h.size;simp only [List.length_set];omega
structure Half (old cur:List (Slot V)) (j:Nat):Prop where
 good:Good cur
 has:∀ k v,Has cur k v↔Has (old.take j) k v
 nf:fulls cur=fulls (old.take j)
 nu:used cur=fulls (old.take j)
theorem take_has (h:s[j]?=some x):Has (s.take (j+1)) k v↔Has (s.take j) k v∨(x.st=1∧x.key=k∧x.val=v):=by
 have hj:j<s.length:=(List.getElem?_eq_some_iff.1 h).1
 have e:s.take (j+1)=s.take j++[x]:=by rw [List.take_add_one,h];rfl
 rw [e]
 unfold Has
 constructor
 ·rintro ⟨i,y,hy,a,b,c⟩
  by_cases hi:i<(s.take j).length
  ·rw [List.getElem?_append_left hi]at hy;exact .inl ⟨i,y,hy,a,b,c⟩
  ·rw [List.getElem?_append_right oQ]at hy
   cases hz:i - (s.take j).length with
   |zero=>rw [hz]at hy;cases hy;exact .inr ⟨a,b,c⟩
   |succ z=>rw [hz]at hy;simp at hy
 ·rintro (⟨i,y,hy,a,b,c⟩|⟨a,b,c⟩)
  ·exact ⟨i,y,by rw [List.getElem?_append_left (List.getElem?_eq_some_iff.1 hy).1];exact hy,a,b,c⟩
  ·exact ⟨(s.take j).length,x,by simp,a,b,c⟩
theorem take_fulls (h:s[j]?=some x):fulls (s.take (j+1))=fulls (s.take j)+(if x.st=1 then 1 else 0):=by
 unfold fulls
 rw [List.take_add_one,h,List.countP_append]
 simp [List.countP_cons]
theorem fulls_take_le (s:List (Slot V)) (j:Nat):fulls (s.take j)≤fulls s:=by
 unfold fulls
 exact (List.take_sublist j s).countP_le
theorem Half.skip {old cur:List (Slot V)} (h:Half old cur j) (hx:old[j]?=some x) (hf:x.st≠1):Half old cur (j+1):=
 ⟨h.good,fun k v=>by rw [take_has hx,h.has];exact ⟨.inl,fun q=>q.elim id fun q=>absurd q.1 hf⟩,by rw [take_fulls hx,if_neg hf];exact h.nf,by rw [take_fulls hx,if_neg hf];exact h.nu⟩
theorem Half.fresh {old cur:List (Slot V)} (go:Good old) (h:Half old cur j) (hx:old[j]?=some x) (hf:x.st=1) (u:V):¬ Has cur x.key u:=by
 rw [h.has]
 rintro ⟨i,y,hy,a,b,c⟩
 have hi:i<(old.take j).length:=(List.getElem?_eq_some_iff.1 hy).1
 have hij:i<j:=by rw [List.length_take]at hi;omega
 have hy':old[i]?=some y:=by rw [List.getElem?_take_of_lt hij]at hy;exact hy
 have:=go.one hy' hx a hf b
 omega
theorem Half.step {old cur:List (Slot V)} (go:Good old) (h:Half old cur j) (hx:old[j]?=some x) (hf:x.st=1) (he:Ends cur x.key d) :
  Half old (cur.set (pos x.key cur.length d) x) (j+1):=by
 obtain ⟨y,hy,hs⟩:=he.slot
 have hyf:y.st≠1:=fun h1=>h.fresh go hx hf y.val (ends_full he hy h1).2
 obtain ⟨h0,_⟩:=ends_empty h.good he hy hyf
 obtain ⟨st,key,val⟩:=x
 obtain rfl:st=1:=hf
 obtain ⟨g,hh⟩:=put_new h.good he hy hyf (go.key _ (List.mem_of_getElem? hx)) val
 have h1:=set_count (fun x=>x.st==1) cur _ y ⟨1,key,val⟩ hy
 have h2:=set_count (fun x=>x.st != 0) cur _ y ⟨1,key,val⟩ hy
 refine ⟨g,fun k v=>?_,?_,?_⟩
 ·rw [hh,take_has hx]
  split
  ·rename_i hk
   subst hk
   constructor
   ·intro e;exact .inr ⟨rfl,rfl,e.symm⟩
   ·rintro (q|⟨_,_,e⟩)
    ·exact absurd ((h.has _ _).2 q) (h.fresh go hx rfl v)
    ·exact e.symm
  ·rename_i hk
   rw [h.has]
   exact ⟨.inl,fun q=>q.elim id fun q=>absurd q.2.1.symm hk⟩
 ·rw [take_fulls hx,if_pos rfl,← h.nf]
  unfold fulls at *;simp [h0]at h1 ⊢;omega
 ·rw [take_fulls hx,if_pos rfl,← h.nu]
  unfold used at *;simp [h0]at h2 ⊢;omega
theorem Half.done {old cur:List (Slot V)} (h:Half old cur old.length):Good cur∧(∀ k v,Has cur k v↔Has old k v)∧fulls cur=fulls old∧used cur=fulls old:=by
 have h1:=h.has;have h2:=h.nf;have h3:=h.nu
 rw [List.take_length]at h1 h2 h3
 exact ⟨h.good,h1,h2,h3⟩
end
end Go.Tab
namespace Go.Sl
open Go
abbrev Hp:Type:=Nat→Option Obj
def HProp:Type:=Hp→Prop
def Hp.disj (a b:Hp):Prop:=∀ i,a i=none∨b i=none
def Hp.join (a b:Hp):Hp:=fun i=>(a i).or (b i)
theorem HProp.ext {A B:HProp} (h:∀ x,A x↔B x):A=B:=funext fun x=>propext (h x)
def emp:HProp:=fun h=>h=fun _=>none
def star (A B:HProp):HProp:=fun h=>∃ a b,Hp.disj a b∧h=Hp.join a b∧A a∧B b
def pt (b:Nat) (o:Obj):HProp:=fun h=>h=fun i=>if i=b then some o else none
theorem Hp.disj_comm {a b:Hp} (h:a.disj b):b.disj a:=fun i=>(h i).symm
theorem Hp.join_comm {a b:Hp} (h:a.disj b):a.join b=b.join a:=by
 funext i
 rcases h i with h|h <;> simp [Hp.join,h]
theorem Hp.join_assoc (a b c:Hp):(a.join b).join c=a.join (b.join c):=by
 funext i;simp [Hp.join,Option.or_assoc]
theorem star_comm (A B:HProp):star A B=star B A:=by
 apply HProp.ext;intro h
 constructor <;> (rintro ⟨a,b,d,rfl,ha,hb⟩;exact ⟨b,a,Hp.disj_comm d,Hp.join_comm d,hb,ha⟩)
theorem star_assoc (A B C:HProp):star (star A B) C=star A (star B C):=by
 apply HProp.ext;intro h
 constructor
 ·rintro ⟨ab,c,d,rfl,⟨a,b,d',rfl,ha,hb⟩,hc⟩
  refine ⟨a,b.join c,?_,Hp.join_assoc _ _ _,ha,⟨b,c,?_,rfl,hb,hc⟩⟩
  ·intro i
   have h1:=d i;have h2:=d' i
   simp only [Hp.join,Option.or_eq_none_iff]at *
   cases h:a i <;> simp_all
  ·intro i
   have h1:=d i
   simp only [Hp.join,Option.or_eq_none_iff]at *
   exact h1.imp (·.2) id
 ·rintro ⟨a,bc,d,rfl,ha,⟨b,c,d',rfl,hb,hc⟩⟩
  refine ⟨a.join b,c,?_,(Hp.join_assoc _ _ _).symm,⟨a,b,?_,rfl,ha,hb⟩,hc⟩
  ·intro i
   have h1:=d i;have h2:=d' i
   simp only [Hp.join,Option.or_eq_none_iff]at *
   cases h:c i <;> simp_all
  ·intro i
   have h1:=d i
   simp only [Hp.join,Option.or_eq_none_iff]at *
   exact h1.imp id (·.1)
theorem star_left_comm (A B C:HProp):star A (star B C)=star B (star A C):=by
 rw [← star_assoc,star_comm A B,star_assoc]
theorem emp_star (A:HProp):star emp A=A:=by
 apply HProp.ext;intro h
 constructor
 ·rintro ⟨a,b,_,rfl,ha,hb⟩
  have:Hp.join a b=b:=by funext i;rw [show a=_ from ha];simp [Hp.join]
  rw [this];exact hb
 ·intro hh
  exact ⟨fun _=>none,h,fun _=> .inl rfl,by funext i;simp [Hp.join],rfl,hh⟩
theorem star_emp (A:HProp):star A emp=A:=by rw [star_comm,emp_star]
def stars:List HProp→HProp
 |[]=>emp
 |A::L=>star A (stars L)
theorem stars_cons (A:HProp) (L:List HProp):stars (A::L)=star A (stars L):=rfl
theorem stars_append:∀ L M:List HProp,stars (L++M)=star (stars L) (stars M)
 |[],M=>(emp_star _).symm
 |A::L,M=>by rw [List.cons_append,stars_cons,stars_append L M,stars_cons,star_assoc]
theorem stars_perm {L M:List HProp} (h:L.Perm M):stars L=stars M:=by
 induction h with
 |nil=>rfl
 |cons x _ ih=>rw [stars_cons,stars_cons,ih]
 |swap x y l=>rw [stars_cons,stars_cons,stars_cons,stars_cons,star_left_comm]
 |trans _ _ ih1 ih2=>exact ih1.trans ih2
theorem stars_one (A:HProp):stars [A]=A:=star_emp A
def Ent (A B:HProp):Prop:=∀ h,A h→B h
theorem Ent.refl (A:HProp):Ent A A:=fun _ h=>h
theorem Ent.star {A B C D:HProp} (h:Ent A C) (k:Ent B D):Ent (star A B) (star C D):=
 fun _ ⟨a,b,d,e,ha,hb⟩=>⟨a,b,d,e,h a ha,k b hb⟩
theorem Ent.of_eq {A B:HProp} (h:A=B):Ent A B:=h ▸ Ent.refl _
theorem Ent.left {A B C:HProp} (h:Ent A B):Ent (Sl.star A C) (Sl.star B C):=h.star (Ent.refl _)
structure Anch (w0 w:World):Prop where
 os:w.os=w0.os
 tape:w.tape=w0.tape
 output:w.output=w0.output
 size:w0.heap.size≤w.heap.size
theorem Anch.refl (w:World):Anch w w:=⟨rfl,rfl,rfl,Nat.le_refl _⟩
def Sat (w0 w:World) (L:List HProp):Prop:=Anch w0 w∧∃ h:Hp,(∀ i o,h i=some o→w.heap[i]?=some o)∧stars L h
section
variable {w0 w:World}{A B C D E G:HProp}{L M F R:List HProp}
theorem Sat.mono (h:Sat w0 w L) (k:Ent (stars L) (stars M)):Sat w0 w M:=⟨h.1,h.2.imp fun x hx=>⟨hx.1,k x hx.2⟩⟩
theorem Sat.perm (h:Sat w0 w L) (k:L.Perm M):Sat w0 w M:=h.mono (Ent.of_eq (stars_perm k))
theorem Sat.head (h:Sat w0 w (A::R)) (k:Ent A B):Sat w0 w (B::R):=h.mono k.left
theorem Sat.split (h:Sat w0 w (A::R)) (k:Ent A (stars M)):Sat w0 w (M++R):=
 h.mono (fun x hx=>by rw [stars_append];exact k.left x hx)
theorem Sat.join (h:Sat w0 w (M++R)) (k:Ent (stars M) A):Sat w0 w (A::R):=
 h.mono (fun x hx=>by rw [stars_append]at hx;exact k.left x hx)
theorem Sat.drop (h:Sat w0 w (A::R)):Sat w0 w R:=by
 obtain ⟨ha,x,hx,a,b,d,rfl,pa,pb⟩:=h
 refine ⟨ha,b,fun i o hi=>hx i o ?_,pb⟩
 simp only [Hp.join]
 rcases d i with h1|h1
 ·simp [h1,hi]
 ·simp [h1]at hi
theorem Sat.pick1 (h:Sat w0 w (A::B::R)):Sat w0 w (B::A::R):=h.perm (List.Perm.swap _ _ _)
theorem Sat.pick2 (h:Sat w0 w (A::B::C::R)):Sat w0 w (C::A::B::R):=
 h.perm (((List.Perm.swap C B R).cons A).trans (List.Perm.swap C A _))
theorem Sat.pick3 (h:Sat w0 w (A::B::C::D::R)):Sat w0 w (D::A::B::C::R):=
 h.perm ((((List.Perm.swap D C R).cons B).cons A).trans (((List.Perm.swap D B _).cons A).trans (List.Perm.swap D A _)))
theorem Sat.pick4 (h:Sat w0 w (A::B::C::D::E::R)):Sat w0 w (E::A::B::C::D::R):=
 (h.perm ((((List.Perm.swap E D R).cons C).cons B).cons A)).pick3
theorem Sat.put1 (h:Sat w0 w (B::A::R)):Sat w0 w (A::B::R):=h.pick1
theorem Sat.emp:Sat w0 w (Sl.emp::R)↔Sat w0 w R:=by
 unfold Sat;rw [stars_cons,emp_star]
theorem Sat.star:Sat w0 w (Sl.star A B::R)↔Sat w0 w (A::B::R):=by
 unfold Sat;rw [stars_cons,stars_cons,stars_cons,star_assoc]
variable {b:Nat}{o:Obj}
theorem Sat.at (h:Sat w0 w (pt b o::R)):w.heap[b]?=some o:=by
 obtain ⟨_,x,hx,a,c,d,rfl,pa,_⟩:=h
 refine hx b o ?_
 rw [show a=_ from pa]
 simp [Hp.join]
theorem Sat.lt (h:Sat w0 w (pt b o::R)):b<w.heap.size:=by
 have:=h.at
 rw [Array.getElem?_eq_some_iff]at this
 exact this.1
theorem Sat.ne {b':Nat}{o':Obj} (h:Sat w0 w (pt b o::pt b' o'::R)):b≠b':=by
 obtain ⟨_,x,hx,a,c,d,rfl,pa,a',c',d',rfl,pa',_⟩:=h
 intro e
 subst e
 rcases d b with h1|h1
 ·rw [show a=_ from pa]at h1;simp at h1
 ·rw [show a'=_ from pa']at h1;simp [Hp.join]at h1
theorem Sat.turn {w':World}{o':Obj} (h:Sat w0 w (pt b o::R)) (ho:w'.os=w.os) (ht:w'.tape=w.tape) (hu:w'.output=w.output)
  (hz:w.heap.size≤w'.heap.size) (hb:w'.heap[b]?=some o') (hr:∀ i,i≠b→i<w.heap.size→w'.heap[i]?=w.heap[i]?):Sat w0 w' (pt b o'::R):=by
 obtain ⟨ha,x,hx,a,c,d,rfl,pa,pr⟩:=h
 rw [show a=_ from pa]at hx d
 refine ⟨⟨ho.trans ha.os,ht.trans ha.tape,hu.trans ha.output,Nat.le_trans ha.size hz⟩,Hp.join (fun i=>if i=b then some o' else none) c,?_,_,c,?_,rfl,rfl,pr⟩
 ·intro i y hy
  by_cases hi:i=b
  ·subst hi
   simp [Hp.join]at hy
   subst hy
   exact hb
  ·simp [Hp.join,hi]at hy
   have:=hx i y (by simp [Hp.join,hi,hy])
   rw [hr i hi,this]
   rw [Array.getElem?_eq_some_iff]at this
   exact this.1
 ·intro i
  have:=d i
  by_cases hi:i=b <;> simp_all
theorem Sat.fresh {w':World} (h:Sat w0 w R) (ho:w'.os=w.os) (ht:w'.tape=w.tape) (hu:w'.output=w.output)
  (hz:w.heap.size≤w'.heap.size) (hbn:w.heap.size≤b) (hb:w'.heap[b]?=some o) (hr:∀ i,i<w.heap.size→w'.heap[i]?=w.heap[i]?):Sat w0 w' (pt b o::R):=by
 obtain ⟨ha,x,hx,pr⟩:=h
 have hn:x b=none:=by
  cases hh:x b with
  |none=>rfl
  |some y=>
   have:=hx _ _ hh
   rw [Array.getElem?_eq_some_iff]at this
   have:=this.1
   omega
 refine ⟨⟨ho.trans ha.os,ht.trans ha.tape,hu.trans ha.output,Nat.le_trans ha.size hz⟩,Hp.join (fun i=>if i=b then some o else none) x,?_,_,x,?_,rfl,rfl,pr⟩
 ·intro i y hy
  by_cases hi:i=b
  ·subst hi
   simp [Hp.join]at hy
   subst hy
   exact hb
  ·simp [Hp.join,hi]at hy
   have:=hx i y hy
   rw [hr i,this]
   rw [Array.getElem?_eq_some_iff]at this
   exact this.1
 ·intro i
  by_cases hi:i=b <;> simp_all
theorem Sat.alloc (h:Sat w0 w R) (o:Obj):Sat w0 (w.alloc o) (pt w.heap.size o::R):=
 h.fresh rfl rfl rfl (by simp) (Nat.le_refl _) (heap_alloc_new w o) (fun i hi=>RowKit.Below.heap_alloc w o i hi)
theorem Sat.drew (h:Sat w0 w R):Sat w0 w.drew R:=⟨⟨h.1.os,h.1.tape,h.1.output,h.1.size⟩,h.2⟩
theorem Sat.cellAt {cs:Array Value}{T:TypeId} (h:Sat w0 w (pt b (.cells cs T (0,0))::R)) (i:Nat) (v:Value) (hv:cs[i]?=some v):w.cell? ⟨b,i,none⟩=some v:=by
 have:=h.at
 simp [World.cell?,this,hv]
theorem Sat.freeAt {cs:Array Value}{T:TypeId} (h:Sat w0 w (pt b (.cells cs T (0,0))::R)) (i:Nat):w.frozen? ⟨b,i,none⟩=false:=by
 have:=h.at
 simp [World.frozen?,this]
theorem Sat.set {cs:Array Value}{T:TypeId} (h:Sat w0 w (pt b (.cells cs T (0,0))::R)) (i:Nat) (v:Value):Sat w0 (w.setCell ⟨b,i,none⟩ v) (pt b (.cells (cs.setIfInBounds i v) T (0,0))::R):=by
 have hb:=h.at
 have hlt:=h.lt
 refine h.turn rfl rfl rfl (by simp) ?_ ?_
 ·simp only [World.setCell,Array.getElem?_modify,if_true,hb]
  simp
 ·intro j hj _
  simp only [World.setCell,Array.getElem?_modify]
  rw [if_neg (Ne.symm hj)]
theorem sel_perm (L:List HProp) (k:Nat) (idx:List Nat) (hk:(L.take k).length=k) (hi:(idx.all (fun i=>decide (i<k)) && decide idx.Nodup)=true) :
  ∃ rest,L.Perm ((idx.map (fun i=>L.getD i Sl.emp)++L.drop k)++rest):=by
 simp only [Bool.and_eq_true,List.all_eq_true,decide_eq_true_eq]at hi
 obtain ⟨h1,h2⟩:=hi
 have hrk:L.take k=(List.range k).map (fun i=>L.getD i Sl.emp):=by
  apply List.ext_getElem?
  intro i
  rw [List.getElem?_take,List.getElem?_map]
  by_cases hik:i<k
  ·have:i<L.length:=by
    have:=List.length_take_le' k L
    rw [hk]at this;omega
   simp [hik,List.getD_eq_getElem?_getD,this]
  ·simp [hik]
 have hp:(List.range k).Perm (idx++(List.range k).filter fun i => !idx.contains i):=by
  rw [List.perm_ext_iff_of_nodup List.nodup_range]
  ·intro a
   simp only [List.mem_range,List.mem_append,List.mem_filter,Bool.not_eq_true',List.contains_eq_mem,decide_eq_false_iff_not]
   constructor
   ·intro h;by_cases ha:a∈idx
    ·exact .inl ha
    ·exact .inr ⟨h,ha⟩
   ·rintro (h|h)
    ·exact h1 a h
    ·exact h.1
  ·rw [List.nodup_append]
   refine ⟨h2,List.nodup_range.sublist List.filter_sublist,?_⟩
   intro a ha b hb e
   subst e
   have:=(List.mem_filter.1 hb).2
   simp [ha]at this
 refine ⟨((List.range k).filter fun i => !idx.contains i).map (fun i=>L.getD i Sl.emp),?_⟩
 have h3:L=L.take k++L.drop k:=(List.take_append_drop k L).symm
 rw [hrk]at h3
 have h4:=(hp.map (fun i=>L.getD i Sl.emp)).append_right (L.drop k)
 rw [List.map_append]at h4
 have h5:L.Perm _:=(List.Perm.of_eq h3).trans h4
 refine h5.trans ?_
 rw [List.append_assoc,List.append_assoc]
 exact List.Perm.append_left _ List.perm_append_comm
theorem Sat.dropR (h:Sat w0 w (L++M)):Sat w0 w L:=by
 obtain ⟨ha,x,hx,hs⟩:=h
 rw [stars_append]at hs
 obtain ⟨a,b,d,rfl,pa,pb⟩:=hs
 refine ⟨ha,a,fun i o hi=>hx i o ?_,pa⟩
 simp [Hp.join,hi]
theorem Sat.sel (h:Sat w0 w L) (k:Nat) (idx:List Nat) (hk:(L.take k).length=k) (hi:(idx.all (fun i=>decide (i<k)) && decide idx.Nodup)=true) :
  Sat w0 w (idx.map (fun i=>L.getD i Sl.emp)++L.drop k):=by
 obtain ⟨rest,hp⟩:=sel_perm L k idx hk hi
 exact (h.perm hp).dropR
def Ro (w0:World) (L:List HProp) (p:World→Prop):Prop:=∀ w,Sat w0 w L→p w
theorem Ro.cons {p:World→Prop} (h:Ro w0 L p):Ro w0 (A::L) p:=fun w hw=>h w hw.drop
def old (w0:World):HProp:=fun h=>h=fun i=>w0.heap[i]?
theorem Sat.old (h:Sat w0 w (old w0::R)){i:Nat} (hi:i<w0.heap.size):w.heap[i]?=w0.heap[i]?:=by
 obtain ⟨_,x,hx,a,c,d,rfl,pa,_⟩:=h
 have:w0.heap[i]?=some (w0.heap[i]):=by simp [hi]
 rw [this]
 refine hx i _ ?_
 rw [show a=_ from pa]
 simp [Hp.join,hi]
theorem Sat.start (w0:World):Sat w0 w0 [Sl.old w0]:=by
 refine ⟨Anch.refl _,fun i=>w0.heap[i]?,fun i o h=>h,?_⟩
 rw [stars_one]
 exact rfl
theorem Sat.below (h:Sat w0 w (Sl.old w0::R)):RowKit.Below w0.heap.size w0 w:=
 ⟨h.1.os,h.1.tape,h.1.output,h.1.size,fun k hk=>h.old hk⟩
end
end Go.Sl
namespace Go.Sl
open Go Go.MapKept
def Rtn (Q:Value→World→Prop) (e:Ending) (w:World):Prop:=∃ v,e = .returned v∧Q v w
def rdsl (sz:Nat) (v:Value) (xs:List Value) (w:World):Prop:=
 ∃ a n cap,v = .slice a n cap∧xs.length=n * sz∧∀ i x,xs[i]?=some x→∃ b,a=some b∧w.cell? (b.add i)=some x
def osl (T sz:Nat) (v:Value) (xs:List Value):HProp:=fun h=>
 (v = .slice none 0 0∧xs=[]∧emp h) ∨
 ∃ b n cap cs,v = .slice (some ⟨b,0,none⟩) n cap∧xs.length=n * sz∧n≤cap∧cap * sz≤cs.size∧cap≤maxLen∧cs.toList.take (n * sz)=xs∧pt b (.cells cs T (0,0)) h
section
variable {w0 w:World}{R L:List HProp}{T sz:Nat}{v:Value}{xs:List Value}
theorem osl_nil (T sz:Nat):osl T sz (.slice none 0 0) []=emp:=by
 apply HProp.ext;intro h
 constructor
 ·rintro (⟨_,_,h⟩|⟨b,n,cap,cs,he,_⟩)
  ·exact h
  ·cases he
 ·intro h;exact .inl ⟨rfl,rfl,h⟩
theorem Sat.osl_nil:Sat w0 w (osl T sz (.slice none 0 0) []::R)↔Sat w0 w R:=by
 rw [Sl.osl_nil];exact Sat.emp
theorem Sat.osl_of_pt {b n cap:Nat}{cs:Array Value} (h:Sat w0 w (pt b (.cells cs T (0,0))::R)) (hl:xs.length=n * sz) (hn:n≤cap) (hc:cap * sz≤cs.size) (hm:cap≤maxLen)
  (ht:cs.toList.take (n * sz)=xs):Sat w0 w (osl T sz (.slice (some ⟨b,0,none⟩) n cap) xs::R):=
 h.head fun _ hx=> .inr ⟨b,n,cap,cs,rfl,hl,hn,hc,hm,ht,hx⟩
theorem Sat.osl_cases (h:Sat w0 w (osl T sz v xs::R)):(v = .slice none 0 0∧xs=[]∧Sat w0 w R) ∨
  ∃ b n cap cs,v = .slice (some ⟨b,0,none⟩) n cap∧xs.length=n * sz∧n≤cap∧cap * sz≤cs.size∧cap≤maxLen∧cs.toList.take (n * sz)=xs∧Sat w0 w (pt b (.cells cs T (0,0))::R):=by
 obtain ⟨ha,x,hx,p,q,d,rfl,hp,hq⟩:=h
 rcases hp with ⟨h1,h2,h3⟩|⟨b,n,cap,cs,h1,h2,h3,h4,h5,h6,h7⟩
 ·refine .inl ⟨h1,h2,ha,q,fun i o hi=>hx i o ?_,hq⟩
  rw [show p=_ from h3];simp [Hp.join,hi]
 ·exact .inr ⟨b,n,cap,cs,h1,h2,h3,h4,h5,h6,ha,_,hx,p,q,d,rfl,h7,hq⟩
theorem add_zero_lit (b j:Nat):(⟨b,0,none⟩:Addr).add j=⟨b,j,none⟩:=by unfold Addr.add;split <;> simp_all
theorem take_get {cs:Array Value}{k:Nat} (ht:cs.toList.take k=xs){i:Nat}{x:Value} (hi:xs[i]?=some x):cs[i]?=some x:=by
 rw [← ht,List.getElem?_take]at hi
 split at hi
 ·simpa using hi
 ·cases hi
theorem Sat.rd (h:Sat w0 w (osl T sz v xs::R)):rdsl sz v xs w:=by
 rcases h.osl_cases with ⟨rfl,rfl,_⟩|⟨b,n,cap,cs,rfl,hl,hn,hc,hm,ht,hp⟩
 ·exact ⟨none,0,0,rfl,by simp,by simp⟩
 ·refine ⟨some ⟨b,0,none⟩,n,cap,rfl,hl,fun i x hi=>⟨_,rfl,?_⟩⟩
  rw [add_zero_lit]
  exact hp.cellAt i x (take_get ht hi)
theorem rdsl_nil (sz cap:Nat) (w:World):rdsl sz (.slice none 0 cap) [] w:=⟨none,0,cap,rfl,by simp,by simp⟩
theorem rdsl.len (h:rdsl sz v xs w):∃ a n cap,v = .slice a n cap∧xs.length=n * sz:=by
 obtain ⟨a,n,cap,h1,h2,_⟩:=h;exact ⟨a,n,cap,h1,h2⟩
end
section
variable {P:Program}{w0 w:World}{R:List HProp}{sz:Nat}{v x:Value}{xs ys:List Value}
theorem run_append (t ty e:TypeId) (i:TypeInfo) (z:Value) (ht:P.underlying t=some (.slice e)) (hi:P.info? e=some i) (hz:i.zero=some z)
  (hs:i.size=sz) (hzs:z.cells.size=sz) (hsz:0<sz) (h1:∀ u∈ys,u.oneCell'=true)
  (h:Sat w0 w (osl e sz v xs::R)) (hx:rdsl sz x ys w) (h63:xs.length+ys.length≤maxLen) (hby:(xs.length+ys.length) * i.bytes≤140737488355328) :
  ∃ v' w',(Builtin.append_ #[t,t] ty #[v,x]).run P w = .ok v' w'∧Sat w0 w' (osl e sz v' (xs++ys)::R)∧(xs++ys≠[]→∃ b n c,v' = .slice (some ⟨b,0,none⟩) n c):=by
 subst hs
 obtain ⟨xa,m,c,rfl,hyl,hyc⟩:=hx
 have hle:∀ {p q:Nat},p=q * i.size→q≤p:=fun {p q} e=>by rw [e];exact Nat.le_mul_of_pos_right _ hsz
 have hm:=hle hyl
 by_cases hm0:m=0
 ·subst hm0
  obtain rfl:ys=[]:=List.eq_nil_of_length_eq_zero (by simpa using hyl)
  rcases h.osl_cases with ⟨rfl,rfl,h'⟩|⟨b,n,cap,cs,rfl,hl,hn,hc,hcm,htk,hp⟩
  ·refine ⟨.slice none 0 0,w,?_,by simpa using h,by simp⟩
   cases xa <;> simp [Builtin.append_,run_underlying ht,sizeOf,typeInfo,hi,Builtin.lenOf,Builtin.firstCells,loadCells,loadCellsFrom]
  ·refine ⟨.slice (some ⟨b,0,none⟩) n cap,w,?_,by simpa using h,fun _=>⟨_,_,_,rfl⟩⟩
   cases xa <;> simp [Builtin.append_,run_underlying ht,sizeOf,typeInfo,hi,Builtin.lenOf,Builtin.firstCells,loadCells,loadCellsFrom,hn,storeCells]
 ·have hy0:ys≠[]:=by
   intro e;subst e
   have:m * i.size=0:=by simpa using hyl.symm
   rcases Nat.mul_eq_zero.1 this with h|h <;> omega
  obtain ⟨ad,rfl⟩:∃ ad,xa=some ad:=by
   obtain ⟨y,hy⟩:∃ y,ys[0]?=some y:=by
    cases ys with
    |nil=>exact absurd rfl hy0
    |cons y _=>exact ⟨y,rfl⟩
   obtain ⟨b,hb,_⟩:=hyc 0 y hy
   exact ⟨b,hb⟩
  have hnews:∀ j u,ys[j]?=some u→w.cell? (ad.add j)=some u:=fun j u hj=>by
   obtain ⟨b,hb,hx⟩:=hyc j u hj
   cases hb;exact hx
  have h63':maxLen=9223372036854775807:=rfl
  have grown:∀ (n old:Nat) (_:n * i.size=xs.length) (_:old<n+m) (_:Sat w0 w R),Sat w0 (w.drew.alloc (.cells (xs.toArray++ys.toArray++Builtin.zeroCells z.cells (grownCap w (n+m) old e - (n+m))) e))
    (osl e i.size (.slice (some ⟨w.heap.size,0,none⟩) (n+m) (grownCap w (n+m) old e)) (xs++ys)::R):=by
   intro n old hn ho hR
   have hge:=grownCap_ge w (n+m) old e
   have hnx:=hle hn.symm
   have hcm:=grownCap_le_maxLen w (n+m) old e oQ
   have:=(hR.drew).alloc (.cells (xs.toArray++ys.toArray++Builtin.zeroCells z.cells (grownCap w (n+m) old e - (n+m))) e)
   refine Sat.osl_of_pt this ?_ hge ?_ hcm ?_
   ·rw [List.length_append,← hn,hyl,Nat.add_mul]
   ·simp only [Array.size_append,List.size_toArray,size_zeroCells,hzs]
    rw [← hn,hyl,← Nat.add_mul,← Nat.add_mul]
    exact Nat.mul_le_mul_right _ oQ
   ·simp only [Array.toList_append,List.append_assoc]
    rw [← List.append_assoc]
    have e1:(n+m) * i.size=(xs++ys).length:=by rw [List.length_append,← hn,hyl,Nat.add_mul]
    rw [e1]
    exact List.take_left
  rcases h.osl_cases with ⟨rfl,rfl,h'⟩|⟨b,n,cap,cs,rfl,hl,hn,hc,hcm,htk,hp⟩
  ·have hby':m * i.bytes≤140737488355328:=by
    refine Nat.le_trans (Nat.mul_le_mul_right _ ?_) hby
    simp;omega
   have hr:=run_append_nil (P:=P) w t ty e i z ht hi hz ad m c ys hyl hnews oQ (by simp at h63;omega) oQ
   have hg:=grown 0 0 (by simp) oQ h'
   simp only [Nat.zero_add,List.nil_append,Array.empty_append]at hg ⊢
   exact ⟨_,_,hr,hg,fun _=>⟨_,_,_,rfl⟩⟩
  ·by_cases hroom:n+m≤cap
   ·have hfit:n * i.size+ys.length≤cs.size:=by
     rw [hyl,← Nat.add_mul];exact Nat.le_trans (Nat.mul_le_mul_right _ hroom) hc
    have hr:=run_append_room (P:=P) w t ty e i ht hi b n cap cs hp.at ad m c ys hyl hnews h1 hroom hfit
    refine ⟨_,_,hr,?_,fun _=>⟨_,_,_,rfl⟩⟩
    have hsat:=hp.turn (w':=w.setRow b (cs.toList.take (n * i.size)++ys++cs.toList.drop (n * i.size+ys.length)).toArray) rfl rfl rfl (by simp) (setRow_heap w b cs _ e _ hp.at) (fun j hj _=>setRow_other w b j _ hj)
    refine Sat.osl_of_pt hsat ?_ hroom ?_ hcm ?_
    ·rw [List.length_append,hl,hyl,Nat.add_mul]
    ·simp only [List.size_toArray,List.length_append,List.length_take,List.length_drop,Array.length_toList]
     omega
    ·rw [htk]
     have e1:(n+m) * i.size=(xs++ys).length:=by rw [List.length_append,hl,hyl,Nat.add_mul]
     rw [e1]
     exact List.take_left
   ·have holds:∀ j u,xs[j]?=some u→w.cell? ((⟨b,0,none⟩:Addr).add j)=some u:=fun j u hj=>by
     rw [add_zero_lit];exact hp.cellAt j u (take_get htk hj)
    have hnx:=hle hl
    have hby':(n+m) * i.bytes≤140737488355328:=Nat.le_trans (Nat.mul_le_mul_right _ oQ) hby
    have hr:=run_append_grow (P:=P) w t ty e i z ht hi hz ⟨b,0,none⟩ n cap xs hl holds ad m c ys hyl hnews oQ oQ (growslice_fits oQ hby')
    exact ⟨_,_,hr,grown n cap hl.symm oQ hp.drop,fun _=>⟨_,_,_,rfl⟩⟩
theorem wp_append {o:Oper}{a:Act}{K:Act→World→Prop}{Q:Exit→Act→World→Prop} (s y:Operand) (t:TypeId)
  (ho:o.op = .call { callee:= .builtin .append,args:=#[s,y],argTypes:=#[t,t] })
  (e:TypeId) (i:TypeInfo) (z:Value) (ht:P.underlying t=some (.slice e)) (hi:P.info? e=some i) (hz:i.zero=some z)
  (hs:i.size=sz) (hzs:z.cells.size=sz) (hsz:0<sz) (hv:a.eval s=v) (hxv:a.eval y=x) (h1:∀ u∈ys,u.oneCell'=true)
  (h:Sat w0 w (osl e sz v xs::R)) (hx:rdsl sz x ys w) (h63:xs.length+ys.length≤maxLen) (hby:(xs.length+ys.length) * i.bytes≤140737488355328)
  (hK:∀ v' w',Sat w0 w' (osl e sz v' (xs++ys)::R)→(xs++ys≠[]→∃ b n c,v' = .slice (some ⟨b,0,none⟩) n c)→K (a.put o.dst v') w'):o.wp P a w K Q:=by
 obtain ⟨v',w',hr,h2,h3⟩:=run_append (P:=P) t o.type e i z ht hi hz hs hzs hsz h1 h hx h63 hby
 unfold Oper.wp execOp
 simp only [ho,resolve,invoke,builtin,Sem.run_bind,Sem.run_pure,Result.andThen_ok,List.map_toArray,List.map_cons,List.map_nil,hv,hxv,hr]
 exact hK v' w' h2 h3
theorem wpList_append {ops:Array Oper}{rest:List Oper}{o:Oper}{a:Act}{Q:Exit→Act→World→Prop} (hgd:o.guard=none) (s y:Operand) (t:TypeId)
  (ho:o.op = .call { callee:= .builtin .append,args:=#[s,y],argTypes:=#[t,t] })
  (e:TypeId) (i:TypeInfo) (z:Value) (ht:P.underlying t=some (.slice e)) (hi:P.info? e=some i) (hz:i.zero=some z)
  (hs:i.size=sz) (hzs:z.cells.size=sz) (hsz:0<sz) (hv:a.eval s=v) (hxv:a.eval y=x) (h1:∀ u∈ys,u.oneCell'=true)
  (h:Sat w0 w (osl e sz v xs::R)) (hx:rdsl sz x ys w) (h63:xs.length+ys.length≤maxLen) (hby:(xs.length+ys.length) * i.bytes≤140737488355328)
  (hK:∀ v' w',Sat w0 w' (osl e sz v' (xs++ys)::R)→(xs++ys≠[]→∃ b n c,v' = .slice (some ⟨b,0,none⟩) n c)→wpList P ops Q rest (a.put o.dst v') w'):wpList P ops Q (o::rest) a w:=
 wpList_plain hgd fun _ hK'=>wp_append s y t ho e i z ht hi hz hs hzs hsz hv hxv h1 h hx h63 hby fun v' w' h2 h3=>hK' _ _ (hK v' w' h2 h3)
end
theorem step_append {P:Program}{w0 w:World}{R:List HProp}{sz:Nat}{v x:Value}{xs ys:List Value}{ops:Array Oper}{o:Oper}{a:Act}{K:Act→World→Prop}{Q:Exit→Act→World→Prop}{E:Prop} (hgd:o.guard=none) (s y:Operand) (t:TypeId)
  (ho:o.op = .call { callee:= .builtin .append,args:=#[s,y],argTypes:=#[t,t] })
  (e:TypeId) (i:TypeInfo) (z:Value) (ht:P.underlying t=some (.slice e)) (hi:P.info? e=some i) (hz:i.zero=some z)
  (hs:i.size=sz) (hzs:z.cells.size=sz) (hsz:0<sz) (hv:a.eval s=v) (hxv:a.eval y=x) (h1:∀ u∈ys,u.oneCell'=true)
  (h:Sat w0 w (osl e sz v xs::R)) (hx:rdsl sz x ys w) (h63:xs.length+ys.length≤maxLen) (hby:(xs.length+ys.length) * i.bytes≤140737488355328)
  (hK:∀ v' w',Sat w0 w' (osl e sz v' (xs++ys)::R)→(xs++ys≠[]→∃ b n c,v' = .slice (some ⟨b,0,none⟩) n c)→K (a.put o.dst v') w') :
  if Region.wanted o (yielded ops a.tmps)=true then Oper.wp P o a w K Q else E:=by
 have hw:Region.wanted o (yielded ops a.tmps)=true:=by simp [Region.wanted,hgd]
 rw [if_pos hw]
 exact wp_append s y t ho e i z ht hi hz hs hzs hsz hv hxv h1 h hx h63 hby hK
theorem rdsl_new (w:World) (cs:Array Value) (T sz n c:Nat) (hn:cs.size=n * sz):rdsl sz (.slice (some ⟨w.heap.size,0,none⟩) n c) cs.toList (w.alloc (.cells cs T)):=
 ⟨_,n,c,rfl,by simpa using hn,fun i x hi=>⟨_,rfl,by rw [add_zero_lit,World.cell?_alloc_new];simpa using hi⟩⟩
def omap (d:TypeDesc) (b:Nat) (l:List (Value×Value)):HProp:=fun h=>
 ∃ es clock,(es.toList.map fun e=>(e.key,e.val)).Perm l∧Stamped es clock∧(∀ x∈es.toList,IsKey d x.key)∧pt b (.map es clock) h
section
variable {P:Program}{w0 w:World}{R:List HProp}{d:TypeDesc}{b:Nat}{l l':List (Value×Value)}
theorem omap_perm (hp:l.Perm l'):omap d b l=omap d b l':=by
 apply HProp.ext;intro h
 exact ⟨fun ⟨es,c,h1,h2⟩=>⟨es,c,h1.trans hp,h2⟩,fun ⟨es,c,h1,h2⟩=>⟨es,c,h1.trans hp.symm,h2⟩⟩
theorem Sat.omap_perm (h:Sat w0 w (omap d b l::R)) (hp:l.Perm l'):Sat w0 w (omap d b l'::R):=Sl.omap_perm hp ▸ h
theorem Sat.omap_open (h:Sat w0 w (omap d b l::R)):∃ es clock,(es.toList.map fun e=>(e.key,e.val)).Perm l∧Stamped es clock∧(∀ x∈es.toList,IsKey d x.key)∧Sat w0 w (pt b (.map es clock)::R):=by
 obtain ⟨ha,x,hx,p,q,dd,rfl,⟨es,c,h1,h2,h3,h4⟩,hq⟩:=h
 exact ⟨es,c,h1,h2,h3,ha,_,hx,p,q,dd,rfl,h4,hq⟩
theorem Sat.omap_shut {es:Array MapEntry}{clock:Nat} (h:Sat w0 w (pt b (.map es clock)::R)) (h1:(es.toList.map fun e=>(e.key,e.val)).Perm l) (h2:Stamped es clock) (h3:∀ x∈es.toList,IsKey d x.key):Sat w0 w (omap d b l::R):=
 h.head fun _ hx=>⟨es,clock,h1,h2,h3,hx⟩
theorem Sat.omap_keys (h:Sat w0 w (omap d b l::R)):(l.map (·.1)).Nodup:=by
 obtain ⟨es,c,h1,h2,h3,h4⟩:=h.omap_open
 have:=(h1.map (·.1)).nodup_iff.1 (by rw [List.map_map];exact h2.2.2)
 exact this
theorem Sat.omap_new (h:Sat w0 w R) (d:TypeDesc):Sat w0 (w.alloc (.map #[] 0)) (omap d w.heap.size []::R):=
 (h.alloc _).omap_shut (by simp) (stamped_empty 0) (by simp)
variable {mty kt et:TypeId}{key:Value}
theorem run_look (hm:P.underlying mty=some (.map kt et)) (hd:P.underlying kt=some d){z:Value} (hz:(zeroValue et).run P w = .ok z w) (hk:IsKey d key) (h:Sat w0 w (omap d b l::R)) :
  (∃ v,(key,v)∈l∧(Instr.lookup mty (.map (some b)) key false).run P w = .ok v w∧(Instr.lookup mty (.map (some b)) key true).run P w = .ok (.tuple #[v,.bool true]) w) ∨
  ((∀ p∈l,p.1≠key)∧(Instr.lookup mty (.map (some b)) key false).run P w = .ok z w∧(Instr.lookup mty (.map (some b)) key true).run P w = .ok (.tuple #[z,.bool false]) w):=by
 obtain ⟨es,c,h1,h2,h3,h4⟩:=h.omap_open
 have hb:=h4.at
 rcases findNow_spec hk es.toList 0 h3 with ⟨f1,f2⟩|⟨j,e,f1,f2,f3⟩
 ·refine .inr ⟨?_,?_,?_⟩
  ·intro p hp e
   have:=(h1.mem_iff.2 hp)
   obtain ⟨x,hx,hxe⟩:=List.mem_map.1 this
   refine f2 x hx ?_
   rw [← e,← hxe]
  ·simp [Instr.lookup,run_underlying hm,MapKept.run_getObj_map hb,MapKept.run_checkKey hd hk,MapKept.run_findKey hd f1,Result.andThen,hz]
  ·simp [Instr.lookup,run_underlying hm,MapKept.run_getObj_map hb,MapKept.run_checkKey hd hk,MapKept.run_findKey hd f1,Result.andThen,hz]
 ·refine .inl ⟨e.val,?_,?_,?_⟩
  ·refine h1.mem_iff.1 (List.mem_map.2 ⟨e,List.mem_of_getElem? f2,?_⟩)
   rw [f3]
  ·simp [Instr.lookup,run_underlying hm,MapKept.run_getObj_map hb,MapKept.run_checkKey hd hk,MapKept.run_findKey hd f1,Result.andThen]
  ·simp [Instr.lookup,run_underlying hm,MapKept.run_getObj_map hb,MapKept.run_checkKey hd hk,MapKept.run_findKey hd f1,Result.andThen]
theorem run_store (hm:P.underlying mty=some (.map kt et)) (hd:P.underlying kt=some d) (hk:IsKey d key) (v:Value) (h:Sat w0 w (omap d b l::R)) :
  ∃ w',(Instr.mapUpdate mty (.map (some b)) key v).run P w = .ok () w'∧∀ l0,(l.Perm l0∧(∀ p∈l0,p.1≠key)∨∃ v0,l.Perm ((key,v0)::l0))→Sat w0 w' (omap d b ((key,v)::l0)::R):=by
 obtain ⟨es,c,h1,h2,h3,h4⟩:=h.omap_open
 have hb:=h4.at
 have hnd:=h.omap_keys
 have turn:∀ o':Obj,Sat w0 { w with heap:=w.heap.setIfInBounds b o' } (pt b o'::R):=fun o'=>
  h4.turn rfl rfl rfl (by simp) (heap_set hb).1 (fun i hi _=>(heap_set hb).2 i hi)
 rcases findNow_spec hk es.toList 0 h3 with ⟨f1,f2⟩|⟨j,e,f1,f2,f3⟩
 ·refine ⟨_,by simp [Instr.mapUpdate,run_underlying hm,MapKept.run_getObj_map hb,MapKept.run_checkKey hd hk,MapKept.run_findKey hd f1,MapKept.run_setObj_map _ hb,Result.andThen];rfl,?_⟩
  intro l0 hl0
  refine (turn _).omap_shut ?_ (stamped_push h2 f2) ?_
  ·have hp:l.Perm l0:=by
    rcases hl0 with ⟨hp,_⟩|⟨v0,hp⟩
    ·exact hp
    ·exfalso
     have:(key,v0)∈es.toList.map fun e=>(e.key,e.val):=h1.mem_iff.2 (hp.mem_iff.2 (.head _))
     obtain ⟨x,hx,hxe⟩:=List.mem_map.1 this
     exact f2 x hx (congrArg Prod.fst hxe)
   simp only [Array.toList_push,List.map_append,List.map_cons,List.map_nil]
   exact (List.perm_append_comm).trans (by simpa using (h1.trans hp).cons (key,v))
  ·intro x hx
   simp only [Array.toList_push,List.mem_append,List.mem_singleton]at hx
   rcases hx with hx|rfl
   ·exact h3 x hx
   ·exact hk
 ·have hj:es[j]?=some e:=by simpa using f2
  refine ⟨_,by simp [Instr.mapUpdate,run_underlying hm,MapKept.run_getObj_map hb,MapKept.run_checkKey hd hk,MapKept.run_findKey hd f1,hj,f3,MapKept.run_keyThatStays hk,MapKept.run_setObj_map _ hb,Result.andThen];rfl,?_⟩
  intro l0 hl0
  have hkey:∀ e',es[j]?=some e'→({ e' with key:=key,val:=v }:MapEntry).key=e'.key:=fun e' he'=>by rw [hj]at he';cases he';exact f3.symm
  refine (turn _).omap_shut ?_ (stamped_modify h2 _ _ (fun _ _=>rfl) (fun e' _ he'=>hkey e' he')) (isKey_modify h3 _ _ hkey)
  have hmem:(key,e.val)∈l:=h1.mem_iff.1 (List.mem_map.2 ⟨e,List.mem_of_getElem? f2,by rw [f3]⟩)
  have hlt:j<es.toList.length:=(List.getElem?_eq_some_iff.1 f2).1
  have hsplit:es.toList=es.toList.take j++e::es.toList.drop (j+1):=by
   have he:es.toList[j]=e:=(List.getElem?_eq_some_iff.1 f2).2
   rw [← he,List.getElem_cons_drop,List.take_append_drop]
  have hp:l.Perm ((key,e.val)::l0):=by
   rcases hl0 with ⟨hp,hne⟩|⟨v0,hp⟩
   ·exact absurd rfl (hne _ (hp.mem_iff.1 hmem))
   ·have:(key,e.val)∈(key,v0)::l0:=hp.mem_iff.1 hmem
    rcases List.mem_cons.1 this with hh|hh
    ·rw [hh];exact hp
    ·have hn:=(hp.map (·.1)).nodup_iff.1 hnd
     simp only [List.map_cons,List.nodup_cons]at hn
     exact absurd (List.mem_map.2 ⟨_,hh,rfl⟩) hn.1
  have hmod:(es.modify j fun e=>{ e with key:=key,val:=v }).toList=es.toList.take j++{ e with key:=key,val:=v }::es.toList.drop (j+1):=by
   rw [Array.toList_modify,List.modify_eq_take_cons_drop hlt]
   have he:es.toList[j]=e:=(List.getElem?_eq_some_iff.1 f2).2
   rw [he]
  rw [hmod]
  rw [hsplit]at h1
  simp only [List.map_append,List.map_cons]at h1 ⊢
  rw [f3]at h1
  have h5:((key,e.val)::((es.toList.take j).map (fun e=>(e.key,e.val))++(es.toList.drop (j+1)).map (fun e=>(e.key,e.val)))).Perm ((key,e.val)::l0):=(List.perm_middle.symm.trans h1).trans hp
  exact List.perm_middle.trans ((List.Perm.cons_inv h5).cons _)
theorem run_drop {ty:TypeId} (hm:P.underlying mty=some (.map kt et)) (hd:P.underlying kt=some d) (hk:IsKey d key) (h:Sat w0 w (omap d b l::R)) :
  ∃ w',(Builtin.delete_ #[mty,kt] ty #[.map (some b),key]).run P w = .ok (.tuple #[]) w'∧∀ l0,(l.Perm l0∧(∀ p∈l0,p.1≠key)∨∃ v0,l.Perm ((key,v0)::l0))→Sat w0 w' (omap d b l0::R):=by
 obtain ⟨es,c,h1,h2,h3,h4⟩:=h.omap_open
 have hb:=h4.at
 have hnd:=h.omap_keys
 have turn:∀ o':Obj,Sat w0 { w with heap:=w.heap.setIfInBounds b o' } (pt b o'::R):=fun o'=>
  h4.turn rfl rfl rfl (by simp) (heap_set hb).1 (fun i hi _=>(heap_set hb).2 i hi)
 rcases findNow_spec hk es.toList 0 h3 with ⟨f1,f2⟩|⟨j,e,f1,f2,f3⟩
 ·refine ⟨_,by simp [Builtin.delete_,run_underlying hm,MapKept.run_getObj_map hb,MapKept.run_checkKey hd hk,MapKept.run_findKey hd f1,MapKept.run_setObj_map _ hb,Result.andThen];rfl,?_⟩
  intro l0 hl0
  refine (turn _).omap_shut ?_ h2 h3
  rcases hl0 with ⟨hp,_⟩|⟨v0,hp⟩
  ·exact h1.trans hp
  ·exfalso
   have:(key,v0)∈es.toList.map fun e=>(e.key,e.val):=h1.mem_iff.2 (hp.mem_iff.2 (.head _))
   obtain ⟨x,hx,hxe⟩:=List.mem_map.1 this
   exact f2 x hx (congrArg Prod.fst hxe)
 ·refine ⟨_,by simp [Builtin.delete_,run_underlying hm,MapKept.run_getObj_map hb,MapKept.run_checkKey hd hk,MapKept.run_findKey hd f1,MapKept.run_setObj_map _ hb,Result.andThen];rfl,?_⟩
  intro l0 hl0
  have hlt:j<es.toList.length:=(List.getElem?_eq_some_iff.1 f2).1
  have hers:(es.eraseIdxIfInBounds j).toList=es.toList.take j++es.toList.drop (j+1):=by
   unfold Array.eraseIdxIfInBounds
   rw [dif_pos (by simpa using hlt),Array.toList_eraseIdx,List.eraseIdx_eq_take_drop_succ]
  refine (turn _).omap_shut ?_ (stamped_erase h2 _) ?_
  ·have hmem:(key,e.val)∈l:=h1.mem_iff.1 (List.mem_map.2 ⟨e,List.mem_of_getElem? f2,by rw [f3]⟩)
   have hp:l.Perm ((key,e.val)::l0):=by
    rcases hl0 with ⟨hp,hne⟩|⟨v0,hp⟩
    ·exact absurd rfl (hne _ (hp.mem_iff.1 hmem))
    ·have:(key,e.val)∈(key,v0)::l0:=hp.mem_iff.1 hmem
     rcases List.mem_cons.1 this with hh|hh
     ·rw [hh];exact hp
     ·have hn:=(hp.map (·.1)).nodup_iff.1 hnd
      simp only [List.map_cons,List.nodup_cons]at hn
      exact absurd (List.mem_map.2 ⟨_,hh,rfl⟩) hn.1
   have hsplit:es.toList=es.toList.take j++e::es.toList.drop (j+1):=by
    have he:es.toList[j]=e:=(List.getElem?_eq_some_iff.1 f2).2
    rw [← he,List.getElem_cons_drop,List.take_append_drop]
   rw [hers]
   rw [hsplit]at h1
   simp only [List.map_append,List.map_cons]at h1 ⊢
   rw [f3]at h1
   exact List.Perm.cons_inv ((List.perm_middle.symm.trans h1).trans hp)
  ·intro x hx
   rw [hers]at hx
   refine h3 x ?_
   rcases List.mem_append.1 hx with hx|hx
   ·exact List.mem_of_mem_take hx
   ·exact List.mem_of_mem_drop hx
theorem run_maplen (hm:P.underlying mty=some (.map kt et)) (ty:TypeId) (h:Sat w0 w (omap d b l::R)):(Builtin.len_ #[mty] ty #[.map (some b)]).run P w = .ok (.int .i64 l.length) w:=by
 obtain ⟨es,c,h1,h2,h3,h4⟩:=h.omap_open
 have hb:=h4.at
 have hl:=h1.length_eq
 simp at hl
 simp [Builtin.len_,run_underlying hm,MapKept.run_getObj_map hb,Result.andThen,goInt,hl]
end
section
variable {P:Program}{w0 w:World}{R:List HProp}{d:TypeDesc}{b:Nat}{l:List (Value×Value)}{key:Value}{t kt et:TypeId}
variable {ops:Array Oper}{rest:List Oper}{o:Oper}{a:Act}{Q:Exit→Act→World→Prop}
theorem wpList_drop (hg:o.guard=none) (m x:Operand) (hop:o.op=Op.call { callee:=Callee.builtin Builtin.delete,args:=#[m,x],argTypes:=#[t,kt] })
  (hm:P.underlying t=some (.map kt et)) (hd:P.underlying kt=some d) (hmv:a.eval m = .map (some b)) (hxv:a.eval x=key) (hk:IsKey d key) (h:Sat w0 w (omap d b l::R))
  (l0:List (Value×Value)) (hl:l.Perm l0∧(∀ p∈l0,p.1≠key)∨∃ v0,l.Perm ((key,v0)::l0))
  (hK:∀ w',Sat w0 w' (omap d b l0::R)→wpList P ops Q rest (a.put o.dst (.tuple #[])) w'):wpList P ops Q (o::rest) a w:=by
 refine wpList_plain hg fun K' hK'=>?_
 obtain ⟨w',hrun,hs⟩:=run_drop (P:=P) (ty:=o.type) hm hd hk h
 unfold Oper.wp
 simp [execOp,hop,resolve,invoke,builtin,hmv,hxv,hrun,Result.andThen]
 exact hK' _ _ (hK w' (hs l0 hl))
theorem wpList_store (hg:o.guard=none) (m x y:Operand) (hop:o.op=Op.mapUpdate t m x y)
  (hm:P.underlying t=some (.map kt et)) (hd:P.underlying kt=some d) (hmv:a.eval m = .map (some b)) (hxv:a.eval x=key) {v:Value} (hyv:a.eval y=v) (hk:IsKey d key) (h:Sat w0 w (omap d b l::R))
  (l0:List (Value×Value)) (hl:l.Perm l0∧(∀ p∈l0,p.1≠key)∨∃ v0,l.Perm ((key,v0)::l0))
  (hK:∀ w',Sat w0 w' (omap d b ((key,v)::l0)::R)→wpList P ops Q rest (a.put o.dst undef) w'):wpList P ops Q (o::rest) a w:=by
 refine wpList_plain hg fun K' hK'=>?_
 obtain ⟨w',hrun,hs⟩:=run_store (P:=P) hm hd hk v h
 unfold Oper.wp
 simp [execOp,hop,hmv,hxv,hyv,hrun,Result.andThen]
 exact hK' _ _ (hK w' (hs l0 hl))
end
end Go.Sl
namespace Go.Med
abbrev Bs:=List UInt8
structure Chg where
 cut:Bool
 n:Nat
 b:Bs
def Chg.on (c:Chg) (l:Bs):Bs:=if c.cut then l.take c.n else l++c.b
structure Fil where
 fast:Bs
 now:Bs
 waits:List Chg
def Fil.new:Fil:=⟨[],[],[]⟩
def Fil.do (f:Fil) (c:Chg):Fil:={ f with now:=c.on f.now,waits:=f.waits++[c] }
def Fil.sync (f:Fil):Fil:={ f with fast:=f.now,waits:=[] }
def Fil.at (f:Fil) (k:Nat):Bs:=(f.waits.take k).foldl (fun b c=>c.on b) f.fast
def clampN (x:Int) (hi:Nat):Nat:=min x.toNat hi
def Fil.left (f:Fil) (whole torn:Int):Bs:=
 let k:=clampN whole f.waits.length
 match f.waits[k]? with
 |some c=>if c.cut then f.at k else f.at k++c.b.take (clampN torn c.b.length)
 |none=>f.at k
def Fil.crash (f:Fil) (whole torn:Int):Fil:=⟨f.left whole torn,f.left whole torn,[]⟩
abbrev Names:=List (ByteArray×Nat)
def lt (a b:ByteArray):Bool:=decide (a.data.toList<b.data.toList)
def nget (l:Names) (s:ByteArray):Option Nat:=(l.find? fun p=>p.1==s).map (·.2)
def ndel (l:Names) (s:ByteArray):Names:=l.filter fun p=>p.1 != s
def nins:Names→ByteArray→Nat→Names
 |[],s,i=>[(s,i)]
 |p::l,s,i=>if lt s p.1 then (s,i)::p::l else p::nins l s i
def nput (l:Names) (s:ByteArray) (i:Nat):Names:=nins (ndel l s) s i
structure Lnk where
 fr:ByteArray
 to:ByteArray
 f:Nat
def Lnk.on (x:Lnk) (l:Names):Names:=
 let l:=if x.fr=ByteArray.empty then l else ndel l x.fr
 if x.to=ByteArray.empty then l else nput l x.to x.f
structure Med where
 room:Nat
 fast:Names
 now:Names
 files:List Fil
 waits:List Lnk
 armed:Bool
 left:Nat
 off:Bool
def Med.file (m:Med) (i:Nat):Fil:=m.files.getD i Fil.new
def Med.used (m:Med):Nat:=(m.now.map fun p=>(m.file p.2).now.length).sum
def new (room:Nat):Med:=⟨room,[],[],[],[],false,0,false⟩
def goodC (c:UInt8):Bool:=(97≤c && c≤122) || (48≤c && c≤57) || c==46 || c==45
def good (s:ByteArray):Bool:=decide (1≤s.size) && decide (s.size≤24) && s.data.toList.all goodC
def Med.step (m:Med):Med×Bool:=
 if m.armed then (if m.left=0 then ({ m with off:=true },false) else ({ m with left:=m.left - 1 },true)) else (m,true)
def Med.link (m:Med) (x:Lnk):Med:={ m with now:=x.on m.now,waits:=m.waits++[x] }
def Med.setFile (m:Med) (i:Nat) (f:Fil):Med:={ m with files:=m.files.set i f }
def Med.create (m:Med) (s:ByteArray):Med×Int:=
 if m.off then (m,12)
 else if good s=false then (m,7)
 else if (nget m.now s).isSome then (m,10)
 else if 500≤m.now.length then (m,16)
 else if m.step.2=false then (m.step.1,12)
 else ({ m.step.1 with files:=m.files++[Fil.new] }.link ⟨ByteArray.empty,s,m.files.length⟩,0)
def Med.append (m:Med) (s:ByteArray) (b:Bs):Med×Int:=
 if m.off then (m,12)
 else match nget m.now s with
 |none=>(m,9)
 |some i=>
  if (m.room:Int) - m.used<b.length then (m,11)
  else if m.step.2=false then (m.step.1,12)
  else (m.step.1.setFile i ((m.file i).do ⟨false,0,b⟩),0)
def Med.truncate (m:Med) (s:ByteArray) (n:Int):Med×Int:=
 if m.off then (m,12)
 else match nget m.now s with
 |none=>(m,9)
 |some i=>
  if n<0∨((m.file i).now.length:Int)<n then (m,2)
  else if m.step.2=false then (m.step.1,12)
  else (m.step.1.setFile i ((m.file i).do ⟨true,n.toNat,[]⟩),0)
def Med.rename (m:Med) (s t:ByteArray):Med×Int:=
 if m.off then (m,12)
 else match nget m.now s with
 |none=>(m,9)
 |some i=>
  if good t=false then (m,7)
  else if m.step.2=false then (m.step.1,12)
  else (m.step.1.link ⟨s,t,i⟩,0)
def Med.remove (m:Med) (s:ByteArray):Med×Int:=
 if m.off then (m,12)
 else match nget m.now s with
 |none=>(m,9)
 |some _=>
  if m.step.2=false then (m.step.1,12)
  else (m.step.1.link ⟨s,ByteArray.empty,0⟩,0)
def Med.sync (m:Med) (s:ByteArray):Med×Int:=
 if m.off then (m,12)
 else match nget m.now s with
 |none=>(m,9)
 |some i=>
  if m.step.2=false then (m.step.1,12)
  else (m.step.1.setFile i (m.file i).sync,0)
def Med.syncDir (m:Med):Med×Int:=
 if m.off then (m,12)
 else if m.step.2=false then (m.step.1,12)
 else ({ m.step.1 with fast:=m.now,waits:=[] },0)
def Med.read (m:Med) (s:ByteArray) (at_ n:Int):Bs×Int:=
 if m.off then ([],12)
 else match nget m.now s with
 |none=>([],9)
 |some i=>
  let l:=(m.file i).now
  if at_<0∨n<0 then ([],2)
  else if (l.length:Int)<at_∨(l.length:Int) - at_<n then ([],3)
  else ((l.drop at_.toNat).take n.toNat,0)
def Med.all (m:Med) (s:ByteArray):Bs×Int:=
 if m.off then ([],12)
 else match nget m.now s with
 |none=>([],9)
 |some i=>((m.file i).now,0)
def Med.size (m:Med) (s:ByteArray):Int×Int:=
 if m.off then (0,12)
 else match nget m.now s with
 |none=>(0,9)
 |some i=>((m.file i).now.length,0)
def Med.list (m:Med):List ByteArray:=if m.off then [] else m.now.map (·.1)
def Med.usedTold (m:Med):Nat:=if m.off then 0 else m.used
def Med.setRoom (m:Med) (n:Int):Med×Int:=
 if m.off then (m,12) else if n<0∨16777216<n then (m,2) else ({ m with room:=n.toNat },0)
def Med.arm (m:Med) (n:Int):Med×Int:=
 if m.off then (m,12) else if n<0 then (m,2) else ({ m with armed:=true,left:=n.toNat },0)
def num (l:List Int) (i:Nat):Int:=l.getD i 0
def Med.lastNames (m:Med) (k:Nat):Names:=(m.waits.take k).foldl (fun l x=>x.on l) m.fast
def crashFiles (l:List Int):Names→Nat→List Fil→List Fil
 |[],_,fs=>fs
 |p::ns,j,fs=>crashFiles l ns (j+2) (fs.set p.2 ((fs.getD p.2 Fil.new).crash (num l j) (num l (j+1))))
def Med.crash (m:Med) (l:List Int):Med:=
 let ns:=m.lastNames (clampN (num l 0) m.waits.length)
 { m with fast:=ns,now:=ns,waits:=[],files:=crashFiles l ns 1 m.files,off:=false,armed:=false,left:=0 }
def xorAt (l:Bs) (i:Nat) (y:UInt8):Bs:=l.set i (l.getD i 0 ^^^ y)
def rotWaits (f:Fil) (i:Nat) (y:UInt8):Nat→Option (List Chg)
 |0=>none
 |k+1=>
  match f.waits[k]? with
  |none=>rotWaits f i y k
  |some c=>if c.cut then rotWaits f i y k
   else if (f.at k).length≤i then some (f.waits.set k { c with b:=xorAt c.b (i - (f.at k).length) y })
   else rotWaits f i y k
def Fil.rot (f:Fil) (i:Nat) (y:UInt8):Fil:=
 match rotWaits f i y f.waits.length with
 |some ws=>{ f with now:=xorAt f.now i y,waits:=ws }
 |none=>{ f with now:=xorAt f.now i y,fast:=xorAt f.fast i y }
def Med.rot (m:Med) (s:ByteArray) (i:Int) (y:UInt8):Med×Bool:=
 match nget m.now s with
 |none=>(m,false)
 |some k=>if i<0∨((m.file k).now.length:Int)≤i then (m,false) else (m.setFile k ((m.file k).rot i.toNat y),true)
end Go.Med
namespace Go.Proofs.YtlimfgdbfadohaaGreatDoor
open Go Go.Sl Go.Med Go.MapKept
def bys (l:Bs):List Value:=l.map fun b=> .int .u8 b.toNat
abbrev ptr (b:Nat):Value:= .pointer (some ⟨b,0,none⟩)
abbrev errno (n:Int):Value:= .int .i64 n
def chgCells (p:Chg×Value):List Value:=[.bool p.1.cut,.int .i64 p.1.n,p.2]
def bsl (v:Value) (l:Bs):HProp:=osl 5 1 v (bys l)
def chgs (ws:List (Chg×Value)):HProp:=stars (ws.map fun p=>bsl p.2 p.1.b)
def filPt (b:Nat) (fv nv wv:Value):HProp:=pt b (.cells #[fv,nv,wv] 76 (0,0))
def FilRaw (b:Nat) (f:Fil) (fv nv wv:Value) (ws:List (Chg×Value)):List HProp:=
 [filPt b fv nv wv,bsl fv f.fast,bsl nv f.now,osl 128 3 wv (ws.flatMap chgCells),chgs ws]
def FilRep (b:Nat) (f:Fil):HProp:=fun h=>∃ fv nv wv ws,ws.map (·.1)=f.waits∧stars (FilRaw b f fv nv wv ws) h
def filesRep (bs:List Nat) (fs:List Fil):HProp:=stars (List.zipWith FilRep bs fs)
def mapL (bs:List Nat) (l:Names):List (Value×Value):=l.map fun p=>(.string p.1,ptr (bs.getD p.2 0))
def lnkCells (bs:List Nat) (x:Lnk):List Value:=[.string x.fr,.string x.to,if x.to=ByteArray.empty then .pointer none else ptr (bs.getD x.f 0)]
def medPt (m:Nat) (M:Med) (fb nb:Nat) (wv:Value):HProp:=
 pt m (.cells #[.int .i64 M.room,.map (some fb),.map (some nb),wv,.bool M.armed,.int .i64 M.left,.bool M.off] 71 (0,0))
def MedRaw (m:Nat) (M:Med) (bs:List Nat) (fb nb:Nat) (wv:Value):List HProp:=
 [medPt m M fb nb wv,omap .string nb (mapL bs M.now),filesRep bs M.files,omap .string fb (mapL bs M.fast),osl 280 3 wv (M.waits.flatMap (lnkCells bs))]
def MedRep (m:Nat) (M:Med):HProp:=fun h=>∃ bs fb nb wv,bs.length=M.files.length∧stars (MedRaw m M bs fb nb wv) h
section
variable {w0 w:World}{F:List HProp}{m b:Nat}{M:Med}{f:Fil}
theorem MedRep.open (h:Sat w0 w (MedRep m M::F)):∃ bs fb nb wv,bs.length=M.files.length∧Sat w0 w (MedRaw m M bs fb nb wv++F):=by
 obtain ⟨ha,x,hx,p,q,d,rfl,⟨bs,fb,nb,wv,hl,hp⟩,hq⟩:=h
 refine ⟨bs,fb,nb,wv,hl,ha,_,hx,?_⟩
 rw [stars_append]
 exact ⟨p,q,d,rfl,hp,hq⟩
theorem MedRep.shut {bs:List Nat}{fb nb:Nat}{wv:Value} (hl:bs.length=M.files.length) (h:Sat w0 w (MedRaw m M bs fb nb wv++F)):Sat w0 w (MedRep m M::F):=
 h.join fun _ hx=>⟨bs,fb,nb,wv,hl,hx⟩
theorem FilRep.open (h:Sat w0 w (FilRep b f::F)):∃ fv nv wv ws,ws.map (·.1)=f.waits∧Sat w0 w (FilRaw b f fv nv wv ws++F):=by
 obtain ⟨ha,x,hx,p,q,d,rfl,⟨bs,fb,nb,wv,hl,hp⟩,hq⟩:=h
 refine ⟨bs,fb,nb,wv,hl,ha,_,hx,?_⟩
 rw [stars_append]
 exact ⟨p,q,d,rfl,hp,hq⟩
theorem FilRep.shut {fv nv wv:Value}{ws:List (Chg×Value)} (hl:ws.map (·.1)=f.waits) (h:Sat w0 w (FilRaw b f fv nv wv ws++F)):Sat w0 w (FilRep b f::F):=
 h.join fun _ hx=>⟨fv,nv,wv,ws,hl,hx⟩
theorem files_take:∀ (bs:List Nat) (fs:List Fil) (i:Nat),bs.length=fs.length→i<fs.length →
  ∃ G:HProp,(filesRep bs fs=star (FilRep (bs.getD i 0) (fs.getD i Fil.new)) G)∧∀ f',filesRep bs (fs.set i f')=star (FilRep (bs.getD i 0) f') G
 |[],[],i,_,h=>by simp at h
 |[],_::_,_,h,_=>by simp at h
 |_::_,[],_,h,_=>by simp at h
 |b::bs,f::fs,0,_,_=>⟨filesRep bs fs,rfl,fun _=>rfl⟩
 |b::bs,f::fs,i+1,hl,hi=>by
  obtain ⟨G,h1,h2⟩:=files_take bs fs i (by simpa using hl) (by simpa using hi)
  refine ⟨star (FilRep b f) G,?_,fun f'=>?_⟩
  ·show star (FilRep b f) (filesRep bs fs)=_
   rw [h1,star_left_comm];rfl
  ·show star (FilRep b f) (filesRep bs (fs.set i f'))=_
   rw [h2,star_left_comm];rfl
theorem files_snoc:∀ (bs:List Nat) (fs:List Fil) (b:Nat) (f:Fil),bs.length=fs.length→filesRep (bs++[b]) (fs++[f])=star (FilRep b f) (filesRep bs fs)
 |[],[],_,_,_=>rfl
 |[],_::_,_,_,h=>by simp at h
 |_::_,[],_,_,h=>by simp at h
 |c::bs,g::fs,b,f,h=>by
  show star (FilRep c g) (filesRep (bs++[b]) (fs++[f]))=_
  rw [files_snoc bs fs b f (by simpa using h),star_left_comm];rfl
end
theorem info8:(Tryz.prog.info? 5).map (fun i=>(i.zero,i.size,i.bytes))=some (some (.int .u8 0),1,1):=by kernel_rfl
theorem infoFile (w:World):(zeroValue 72).run Tryz.prog w = .ok (.pointer none) w:=by kernel_rfl
@[go_sem] theorem eqMapNil (w:World) (r:Option Nat):(binOp .eql 68 (.map r) (.map none)).run Tryz.prog w = .ok (.bool r.isNone) w:=run_eql_map_nil w _ _ _ r Tryz.underlying68
end Go.Proofs.YtlimfgdbfadohaaGreatDoor
namespace Go.Proofs.YtlimfgdbfadohaaGreatDoor
open Go Go.Sl Go.Med Go.MapKept Go.RowKit
section
variable {w0 w:World}{F:List HProp}{m fb nb:Nat}{M:Med}{bs:List Nat}{wv:Value}{s:ByteArray}
theorem dead_c (h:Sat w0 w (medPt m M fb nb wv::F)) :
  Calls Tryz.prog 106 #[ptr m] w (Rtn fun v w'=>v=errno (bif M.off then 12 else 0)∧w=w'):=by
 obtain ⟨room,fast,now,files,waits,armed,left,off⟩:=M
 have c2:=h.cellAt 2 _ rfl
 have c6:=h.cellAt 6 _ rfl
 go_enter Tryz.func106,Tryz.ntmps106
 cases off <;> (go_wp2;go_ret;exact ⟨_,rfl,rfl,rfl⟩)
theorem step_c (h:Sat w0 w (medPt m M fb nb wv::F)) (hl:M.left≤9223372036854775807) :
  Calls Tryz.prog 168 #[ptr m] w (Rtn fun v w'=>v=errno (bif M.step.2 then 0 else 12)∧Sat w0 w' (medPt m M.step.1 fb nb wv::F)):=by
 obtain ⟨room,fast,now,files,waits,armed,left,off⟩:=M
 have c4:=h.cellAt 4 _ rfl
 have c5:=h.cellAt 5 _ rfl
 have f5:=h.freeAt 5
 have f6:=h.freeAt 6
 have c6:=h.cellAt 6 _ rfl
 simp only at hl
 go_enter Tryz.func168,Tryz.ntmps168
 cases armed
 ·go_wp2
  go_ret
  exact ⟨_,rfl,by simp [Med.step],by simpa [Med.step] using h⟩
 ·by_cases hz:left=0
  ·subst hz
   go_wp2
   go_ret
   exact ⟨_,rfl,rfl,h.set 6 (.bool true)⟩
  ·have hz':((left:Int)==0)=false:=by simpa using hz
   have e1:((left - 1:Nat):Int)=(left:Int) - 1:=by omega
   go_wp2
   go_ret
   refine ⟨_,rfl,by simp [Med.step,hz],?_⟩
   have:=h.set 5 (.int .i64 ((left:Int) - 1))
   simp only [Med.step,hz,if_true,if_false,medPt,e1]
   exact this
end
end Go.Proofs.YtlimfgdbfadohaaGreatDoor
namespace Go.Med
theorem beq_ba (a b:ByteArray):(a==b)=decide (a=b):=by
 by_cases h:a=b
 ·subst h;simp [(MapKept.bytes_beq a a).2 rfl]
 ·have:¬ (a==b)=true:=fun e=>h ((MapKept.bytes_beq a b).1 e)
  simp [h,Bool.eq_false_iff.2 this]
theorem nget_mem {l:Names}{s:ByteArray}{i:Nat} (h:nget l s=some i):(s,i)∈l:=by
 unfold nget at h
 cases hf:l.find? (fun p=>p.1==s) with
 |none=>rw [hf]at h;cases h
 |some p=>
  rw [hf]at h
  have h1:=List.find?_some hf
  have h2:=List.mem_of_find?_eq_some hf
  simp [beq_ba]at h1 h
  obtain ⟨a,b⟩:=p
  simp at h1 h;subst h1;subst h;exact h2
theorem nget_none {l:Names}{s:ByteArray} (h:nget l s=none):∀ p∈l,p.1≠s:=by
 intro p hp e
 simp only [nget,Option.map_eq_none_iff,List.find?_eq_none]at h
 exact h p hp (by simp [beq_ba,e])
theorem nget_of_mem {l:Names} (hn:(l.map (·.1)).Nodup){s:ByteArray}{i:Nat} (h:(s,i)∈l):nget l s=some i:=by
 cases hg:nget l s with
 |none=>exact absurd rfl (nget_none hg _ h)
 |some j=>
  have hj:=nget_mem hg
  induction l with
  |nil=>cases h
  |cons p l ih=>
   simp only [List.map_cons,List.nodup_cons]at hn
   rcases List.mem_cons.1 h with h1|h1 <;> rcases List.mem_cons.1 hj with h2|h2
   ·rw [← h1]at h2;cases h2;rfl
   ·exact (hn.1 (List.mem_map.2 ⟨_,h2,by rw [← h1]⟩)).elim
   ·exact (hn.1 (List.mem_map.2 ⟨_,h1,by rw [← h2]⟩)).elim
   ·refine ih hn.2 h1 ?_ h2
    unfold nget at hg ⊢
    have:(p.1==s)=false:=by
     rw [beq_ba];simp
     intro e
     exact hn.1 (List.mem_map.2 ⟨_,h1,e.symm⟩)
    rw [List.find?_cons_of_neg (by simp [this])]at hg
    exact hg
theorem ndel_keys (l:Names) (s:ByteArray):∀ p∈ndel l s,p.1≠s:=by
 intro p hp
 have:=(List.mem_filter.1 hp).2
 simpa [beq_ba,bne] using this
theorem ndel_perm {l:Names} (hn:(l.map (·.1)).Nodup){s:ByteArray}{i:Nat} (h:(s,i)∈l):l.Perm ((s,i)::ndel l s):=by
 induction l with
 |nil=>cases h
 |cons p l ih=>
  simp only [List.map_cons,List.nodup_cons]at hn
  rcases List.mem_cons.1 h with h1|h1
  ·subst h1
   have:ndel ((s,i)::l) s=l:=by
    unfold ndel
    rw [List.filter_cons_of_neg (by simp [beq_ba,bne]),List.filter_eq_self]
    intro q hq
    simp only [bne,beq_ba,Bool.not_eq_true',decide_eq_false_iff_not]
    exact fun e=>hn.1 (List.mem_map.2 ⟨q,hq,e⟩)
   rw [this]
  ·have hps:p.1≠s:=fun e=>hn.1 (List.mem_map.2 ⟨_,h1,e.symm⟩)
   have:ndel (p::l) s=p::ndel l s:=by
    unfold ndel
    rw [List.filter_cons_of_pos (by simpa [beq_ba,bne] using hps)]
   rw [this]
   exact ((ih hn.2 h1).cons p).trans (List.Perm.swap _ _ _)
theorem ndel_none {l:Names}{s:ByteArray} (h:nget l s=none):ndel l s=l:=by
 unfold ndel
 rw [List.filter_eq_self]
 intro q hq
 simpa [beq_ba,bne] using nget_none h q hq
theorem nins_perm:∀ (l:Names) (s:ByteArray) (i:Nat),(nins l s i).Perm ((s,i)::l)
 |[],_,_=>List.Perm.refl _
 |p::l,s,i=>by
  unfold nins
  split
  ·exact List.Perm.refl _
  ·exact ((nins_perm l s i).cons p).trans (List.Perm.swap _ _ _)
theorem nput_perm (l:Names) (s:ByteArray) (i:Nat):(nput l s i).Perm ((s,i)::ndel l s):=nins_perm _ _ _
end Go.Med
namespace Go.Sl
open Go Go.MapKept
abbrev kv (e:MapEntry):Value×Value:=(e.key,e.val)
theorem inj_of_nodup_map {α β:Type}{f:α→β}:∀ {l:List α},(l.map f).Nodup→∀ {x y:α},x∈l→y∈l→f x=f y→x=y
 |[],_,_,_,h,_,_=>by cases h
 |z::l,hn,x,y,hx,hy,e=>by
  simp only [List.map_cons,List.nodup_cons]at hn
  rcases List.mem_cons.1 hx with h1|h1 <;> rcases List.mem_cons.1 hy with h2|h2
  ·rw [h1,h2]
  ·subst h1;exact (hn.1 (List.mem_map.2 ⟨y,h2,e.symm⟩)).elim
  ·subst h2;exact (hn.1 (List.mem_map.2 ⟨x,h1,e⟩)).elim
  ·exact inj_of_nodup_map hn.2 h1 h2 e
def rng (d:TypeDesc) (b r:Nat) (l left:List (Value×Value)):HProp:=fun h=>
 ∃ es clock seen,(es.toList.map kv).Perm l∧Stamped es clock∧(∀ x∈es.toList,IsKey d x.key)∧((es.toList.filter fun e => !seen.contains e.born).map kv).Perm left ∧
  star (pt b (.map es clock)) (pt r (.mapIter (some b) clock seen clock)) h
section
variable {P:Program}{w0 w:World}{R:List HProp}{d:TypeDesc}{b r:Nat}{l left:List (Value×Value)}
theorem Sat.rng_open (h:Sat w0 w (rng d b r l left::R)):∃ es clock seen,(es.toList.map kv).Perm l∧Stamped es clock∧(∀ x∈es.toList,IsKey d x.key)∧((es.toList.filter fun e => !seen.contains e.born).map kv).Perm left ∧
  Sat w0 w (pt b (.map es clock)::pt r (.mapIter (some b) clock seen clock)::R):=by
 obtain ⟨ha,x,hx,p,q,dd,rfl,⟨es,c,se,h1,h2,h3,h4,h5⟩,hq⟩:=h
 refine ⟨es,c,se,h1,h2,h3,h4,Sat.star.1 ⟨ha,_,hx,p,q,dd,rfl,h5,hq⟩⟩
theorem Sat.rng_shut {es:Array MapEntry}{clock:Nat}{seen:Array Nat} (h:Sat w0 w (pt b (.map es clock)::pt r (.mapIter (some b) clock seen clock)::R))
  (h1:(es.toList.map kv).Perm l) (h2:Stamped es clock) (h3:∀ x∈es.toList,IsKey d x.key) (h4:((es.toList.filter fun e => !seen.contains e.born).map kv).Perm left):Sat w0 w (rng d b r l left::R):=
 (Sat.star.2 h).head fun _ hx=>⟨es,clock,seen,h1,h2,h3,h4,hx⟩
theorem Sat.rng_done (h:Sat w0 w (rng d b r l left::R)):Sat w0 w (omap d b l::R):=by
 obtain ⟨es,c,se,h1,h2,h3,h4,h5⟩:=h.rng_open
 exact (h5.pick1.drop).omap_shut h1 h2 h3
theorem run_range_sl {t k e:TypeId} (ht:P.underlying t=some (.map k e)) (h:Sat w0 w (omap d b l::R)) :
  ∃ r w',(Instr.range t (.map (some b))).run P w = .ok (.pointer (some ⟨r,0,none⟩)) w'∧Sat w0 w' (rng d b r l l::R):=by
 obtain ⟨es,c,h1,h2,h3,h4⟩:=h.omap_open
 have hb:=h4.at
 refine ⟨w.heap.size,w.alloc (.mapIter (some b) c #[] c),?_,?_⟩
 ·simp [Instr.range,run_underlying ht,MapKept.run_getObj_map hb,Result.andThen]
 ·exact (h4.alloc (.mapIter (some b) c #[] c)).pick1.rng_shut h1 h2 h3 (by rw [List.filter_eq_self.2 (by simp)];exact h1)
theorem run_next_sl (h:Sat w0 w (rng d b r l left::R)) (ty:TypeId) :
  (left=[]∧(Instr.next (.pointer (some ⟨r,0,none⟩)) false ty).run P w = .ok (.tuple #[.bool false]) w) ∨
  ∃ k v left' w',left.Perm ((k,v)::left')∧(Instr.next (.pointer (some ⟨r,0,none⟩)) false ty).run P w = .ok (.tuple #[.bool true,k,v]) w'∧Sat w0 w' (rng d b r l left'::R) ∧
   (Instr.entry (.pointer (some ⟨r,0,none⟩))).run P w' = .ok (.tuple #[k,v]) w':=by
 obtain ⟨es,c,se,h1,h2,h3,h4,h5⟩:=h.rng_open
 have hb:=h5.at
 have hr:=h5.pick1.at
 have hne:=h5.ne
 have hgr:(getObj r).run P w = .ok (.mapIter (some b) c se c) w:=by simp [getObj,Sem.run,hr]
 have hgb:(getObj b).run P w = .ok (.map es c) w:=MapKept.run_getObj_map hb
 have hborn:=h2.1
 have hold:(es.filter fun e => !se.contains e.born).filter (fun e=>decide (e.born<c))=es.filter fun e => !se.contains e.born:=by
  apply Array.ext'
  simp only [Array.toList_filter]
  rw [List.filter_eq_self]
  intro x hx
  simpa using hborn x ((List.mem_filter.1 hx).1)
 have hnew:(es.filter fun e => !se.contains e.born).filter (fun e=>decide (e.born≥c))=#[]:=by
  apply Array.ext'
  simp only [Array.toList_filter]
  rw [List.filter_eq_nil_iff]
  intro x hx
  have:=hborn x ((List.mem_filter.1 hx).1)
  simp;omega
 have hall:(!se.isEmpty && !es.isEmpty && es.all (fun e=>decide (e.born≥c)))=false:=by
  by_cases he:es.isEmpty
  ·simp [he]
  ·have:es.all (fun e=>decide (e.born≥c))=false:=by
    rw [Array.all_eq_false]
    have:0<es.size:=by
     rcases Nat.eq_zero_or_pos es.size with h|h
     ·exact absurd (by simpa using h) he
     ·exact h
    refine ⟨0,this,?_⟩
    have:=hborn es[0] (by simp)
    simp;omega
   simp [this]
 generalize hlf:(es.filter fun e => !se.contains e.born)=lf at *
 have hlf':lf.toList=es.toList.filter fun e => !se.contains e.born:=by rw [← hlf];simp
 rw [← hlf']at h4
 have key:(Instr.next (.pointer (some ⟨r,0,none⟩)) false ty).run P w =
   (do
    let candidates:=(if lf.isEmpty then #[none] else #[])++lf.map some
    match candidates[← choose (.mapNext candidates.size)]? with
    |some (some e)=>
     setObj r (.mapIter (some b) c (se.push e.born) c)
     pure (.tuple #[.bool true,e.key,e.val])
    |some none=>pure (.tuple #[.bool false])
    |none=>stuck "Next: no such candidate" : Sem Value).run P w:=by
  unfold Instr.next
  simp only [Sem.run_bind,hgr,Result.andThen_ok,hgb,hall,Bool.false_eq_true,if_false,hlf,hold,hnew,Array.append_empty]
  rfl
 by_cases hle:lf=#[]
 ·left
  subst hle
  have:left=[]:=by simpa using h4.symm
  refine ⟨this,?_⟩
  rw [key]
  simp [choose,Sem.run,Question.forced,Result.andThen]
 ·right
  have hpos:0<lf.size:=by
   rcases Nat.eq_zero_or_pos lf.size with h|h
   ·exact absurd (by simpa using h) hle
   ·exact h
  have hemp:lf.isEmpty=false:=by simpa using hle
  -- which one
  obtain ⟨i,w1,hi,hw1,hch⟩:∃ i w1,i<lf.size∧(w1=w∨w1=w.drew)∧(choose (.mapNext (lf.map some).size)).run P w = .ok i w1:=by
   by_cases h1:lf.size≤1
   ·refine ⟨0,w,hpos,.inl rfl,?_⟩
    simp [choose,Sem.run,Question.forced,h1]
   ·refine ⟨w.tape w.drawn (.mapNext (lf.map some).size)%lf.size,w.drew,Nat.mod_lt _ hpos,.inr rfl,?_⟩
    simp [choose,Sem.run,Question.forced,h1,Question.cut]
  have h5':Sat w0 w1 (pt b (.map es c)::pt r (.mapIter (some b) c se c)::R):=by
   rcases hw1 with rfl|rfl
   ·exact h5
   ·exact h5.drew
  have hr1:=h5'.pick1.at
  have hget:(lf.map some)[i]?=some (some lf[i]):=by simp [hi]
  obtain ⟨x,hx⟩:∃ x,x=lf[i]:=⟨_,rfl⟩
  have hxm:x∈es.toList.filter fun e => !se.contains e.born:=by rw [← hlf',hx];simp
  have hxes:x∈es.toList:=(List.mem_filter.1 hxm).1
  have hset:(setObj r (.mapIter (some b) c (se.push x.born) c)).run P w1 = .ok () { w1 with heap:=w1.heap.setIfInBounds r (.mapIter (some b) c (se.push x.born) c) }:=by
   simp [setObj,Sem.run,hr1]
  have h6:Sat w0 { w1 with heap:=w1.heap.setIfInBounds r (.mapIter (some b) c (se.push x.born) c) } (pt r (.mapIter (some b) c (se.push x.born) c)::pt b (.map es c)::R):=
   h5'.pick1.turn rfl rfl rfl (by simp) (heap_set hr1).1 (fun i hi _=>(heap_set hr1).2 i hi)
  have hnd:=h2.2.1
  refine ⟨x.key,x.val,(es.toList.filter fun e => !(se.push x.born).contains e.born).map kv,_,?_,?_,h6.pick1.rng_shut h1 h2 h3 (List.Perm.refl _),?_⟩
  ·
   refine h4.symm.trans ?_
   rw [hlf']
   have hbn:∀ y∈es.toList,y.born=x.born→y=x:=by
    intro y hy hyx
    exact inj_of_nodup_map hnd hy hxes hyx
   have hmem:x∈es.toList.filter fun e => !se.contains e.born:=hxm
   have:(es.toList.filter fun e => !se.contains e.born).Perm (x::es.toList.filter fun e => !(se.push x.born).contains e.born):=by
    have hf:(es.toList.filter fun e => !(se.push x.born).contains e.born)=(es.toList.filter fun e => !se.contains e.born).filter fun e=>e.born != x.born:=by
     rw [List.filter_filter]
     apply List.filter_congr
     intro y _
     by_cases hb:y.born=x.born <;> simp [hb]
    rw [hf]
    have hnd':((es.toList.filter fun e => !se.contains e.born).map (·.born)).Nodup:=hnd.sublist ((List.filter_sublist).map _)
    clear hf h4 hlf' hlf key
    generalize (es.toList.filter fun e => !se.contains e.born)=L at *
    induction L with
    |nil=>cases hmem
    |cons y L ih=>
     simp only [List.map_cons,List.nodup_cons]at hnd'
     rcases List.mem_cons.1 hmem with rfl|hm
     ·rw [List.filter_cons_of_neg (by simp)]
      rw [List.filter_eq_self.2]
      intro z hz
      simp only [bne_iff_ne,ne_eq]
      intro e
      exact hnd'.1 (List.mem_map.2 ⟨z,hz,e⟩)
     ·have hyx:y.born≠x.born:=fun e=>hnd'.1 (List.mem_map.2 ⟨x,hm,e.symm⟩)
      rw [List.filter_cons_of_pos (by simpa using hyx)]
      exact ((ih hm hm hnd'.2).cons y).trans (List.Perm.swap _ _ _)
   simpa using this.map kv
  ·rw [key,hemp]
   simp only [Bool.false_eq_true,if_false,Array.empty_append,Sem.run_bind,hch,Result.andThen_ok,hget,← hx,hset,Sem.run_pure]
  ·have hr6:=h6.at
   have hb6:=h6.pick1.at
   have hg1:∀ w',w'.heap[r]?=some (.mapIter (some b) c (se.push x.born) c)→(getObj r).run P w' = .ok (.mapIter (some b) c (se.push x.born) c) w':=by
    intro w' hw;simp [getObj,Sem.run,hw]
   have hfind:es.find? (fun e=>e.born==x.born)=some x:=by
    rw [← Array.find?_toList]
    cases hf:es.toList.find? (fun e=>e.born==x.born) with
    |none=>
     rw [List.find?_eq_none]at hf
     exact absurd (by simp) (hf x hxes)
    |some y=>
     have h7:=List.find?_some hf
     have h8:=List.mem_of_find?_eq_some hf
     rw [inj_of_nodup_map hnd h8 hxes (by simpa using h7)]
   unfold Instr.entry
   simp only [Sem.run_bind,hg1 _ hr6,Result.andThen_ok,MapKept.run_getObj_map hb6,Array.back?_push,hfind]
   simp
variable {ops:Array Oper}{rest:List Oper}{o:Oper}{a:Act}{Q:Exit→Act→World→Prop}
theorem wpList_range_sl (hg:o.guard=none) (m:Operand) (t k e:TypeId) (hop:o.op=Op.range t m) (ht:P.underlying t=some (.map k e)) (hm:a.eval m = .map (some b)) (h:Sat w0 w (omap d b l::R))
  (hK:∀ r w',Sat w0 w' (rng d b r l l::R)→wpList P ops Q rest (a.put o.dst (.pointer (some ⟨r,0,none⟩))) w'):wpList P ops Q (o::rest) a w:=by
 refine wpList_plain hg fun K hK'=>?_
 obtain ⟨r,w',hr,hs⟩:=run_range_sl (P:=P) ht h
 unfold Oper.wp
 simp [execOp,hop,hm,hr,Result.andThen]
 exact hK' _ _ (hK r w' hs)
theorem wpList_next_sl (hg:o.guard=none) (it:Operand) (hop:o.op=Op.next it false) (hit:a.eval it = .pointer (some ⟨r,0,none⟩)) (h:Sat w0 w (rng d b r l left::R))
  (hnil:left=[]→wpList P ops Q rest (a.put o.dst (.tuple #[.bool false])) w)
  (hK:∀ k v left' w',left.Perm ((k,v)::left')→Sat w0 w' (rng d b r l left'::R)→(Instr.entry (.pointer (some ⟨r,0,none⟩))).run P w' = .ok (.tuple #[k,v]) w' →
   wpList P ops Q rest (a.put o.dst (.tuple #[.bool true,k,v])) w'):wpList P ops Q (o::rest) a w:=by
 refine wpList_plain hg fun K hK'=>?_
 unfold Oper.wp
 rcases run_next_sl (P:=P) h o.type with ⟨h1,h2⟩|⟨k,v,left',w',h1,h2,h3,h4⟩
 ·simp [execOp,hop,hit,h2,Result.andThen]
  exact hK' _ _ (hnil h1)
 ·simp [execOp,hop,hit,h2,Result.andThen]
  exact hK' _ _ (hK k v left' w' h1 h3 h4)
end
end Go.Sl
namespace Go.Proofs.YtlimfgdbfadohaaGreatDoor
open Go Go.Sl Go.Med Go.MapKept Go.RowKit
section
variable {w0 w:World}{F:List HProp}{m fb nb b:Nat}{M:Med}{bs:List Nat}{wv:Value}{s:ByteArray}{l:Names}
theorem mapL_keys (h:Sat w0 w (omap .string b (mapL bs l)::F)):(l.map (·.1)).Nodup:=by
 have:=h.omap_keys
 simp only [mapL,List.map_map]at this
 rw [List.nodup_iff_pairwise_ne,List.pairwise_map]at this ⊢
 refine this.imp fun {x y} hxy e=>hxy ?_
 simp [e]
def fptr (bs:List Nat) (l:Names) (s:ByteArray):Value:=match nget l s with|some i=>ptr (bs.getD i 0)|none=> .pointer none
theorem look_names (h:Sat w0 w (omap .string b (mapL bs l)::F)):(Instr.lookup 68 (.map (some b)) (.string s) false).run Tryz.prog w = .ok (fptr bs l s) w:=by
 have hn:=mapL_keys h
 rcases run_look (P:=Tryz.prog) Tryz.underlying68 Tryz.underlying9 (infoFile w) (key:= .string s) trivial h with ⟨v,h1,h2,_⟩|⟨h1,h2,_⟩
 ·rw [h2]
  obtain ⟨p,hp,e⟩:=List.mem_map.1 h1
  simp only [Prod.mk.injEq,Value.string.injEq]at e
  obtain ⟨a,i⟩:=p
  simp only at e
  rw [← e.1,← e.2,fptr,nget_of_mem hn hp]
 ·rw [h2,fptr]
  cases hg:nget l s with
  |none=>rfl
  |some i=>exact absurd rfl (h1 (.string s,ptr (bs.getD i 0)) (List.mem_map.2 ⟨(s,i),nget_mem hg,rfl⟩))
abbrev medCon (m:Nat) (M:Med) (fb nb:Nat) (wv:Value) (bs:List Nat) (F:List HProp):List HProp:=medPt m M fb nb wv::omap .string nb (mapL bs M.now)::F
theorem find_off (h:Sat w0 w (medPt m M fb nb wv::F)) (ho:M.off=true) :
  Calls Tryz.prog 108 #[ptr m,.string s] w (Rtn fun v w'=>v = .tuple #[.pointer none,errno 12]∧w=w'):=by
 go_enter Tryz.func108,Tryz.ntmps108
 go_wp2_with (go_at_call 106;refine (dead_c h).mono ?_;rintro e w1 ⟨v,rfl,rfl,rfl⟩;rw [ho])
 go_ret2
 exact ⟨_,rfl,rfl,rfl⟩
theorem find_none (h:Sat w0 w (medCon m M fb nb wv bs F)) (ho:M.off=false) (hn:nget M.now s=none) :
  Calls Tryz.prog 108 #[ptr m,.string s] w (Rtn fun v w'=>v = .tuple #[.pointer none,errno 9]∧w=w'):=by
 have c2:=h.cellAt 2 _ rfl
 have hl:=look_names (s:=s) h.pick1
 rw [fptr,hn]at hl
 have hd:=dead_c h
 rw [ho]at hd
 clear hn ho
 go_enter Tryz.func108,Tryz.ntmps108
 go_wp2_with (go_at_call 106;refine hd.mono ?_;rintro e w1 ⟨v,rfl,rfl,rfl⟩)
 go_ret2
 exact ⟨_,rfl,rfl,rfl⟩
theorem find_some {i:Nat} (h:Sat w0 w (medCon m M fb nb wv bs F)) (ho:M.off=false) (hn:nget M.now s=some i) :
  Calls Tryz.prog 108 #[ptr m,.string s] w (Rtn fun v w'=>v = .tuple #[ptr (bs.getD i 0),errno 0]∧w=w'):=by
 have c2:=h.cellAt 2 _ rfl
 have hl:=look_names (s:=s) h.pick1
 rw [fptr,hn]at hl
 have hd:=dead_c h
 rw [ho]at hd
 clear hn ho
 simp only at hl
 generalize bs.getD i 0=fp at *
 go_enter Tryz.func108,Tryz.ntmps108
 go_wp2_with (go_at_call 106;refine hd.mono ?_;rintro e w1 ⟨v,rfl,rfl,rfl⟩)
 go_ret2
 exact ⟨_,rfl,rfl,rfl⟩
end
section
variable {w0 w:World}{F:List HProp}{m fb nb b:Nat}{M:Med}{bs:List Nat}{wv:Value}{s:ByteArray}{l:Names}
theorem mapL_perm {l l':Names} (h:l.Perm l'):(mapL bs l).Perm (mapL bs l'):=h.map _
theorem del_side (hn:(l.map (·.1)).Nodup) (s:ByteArray):(mapL bs l).Perm (mapL bs (ndel l s))∧(∀ p∈mapL bs (ndel l s),p.1 ≠ .string s)∨∃ v0,(mapL bs l).Perm ((.string s,v0)::mapL bs (ndel l s)):=by
 cases hg:nget l s with
 |none=>
  left
  rw [ndel_none hg]
  refine ⟨List.Perm.refl _,fun p hp=>?_⟩
  obtain ⟨q,hq,rfl⟩:=List.mem_map.1 hp
  simpa using nget_none hg q hq
 |some i=>exact .inr ⟨ptr (bs.getD i 0),mapL_perm (ndel_perm hn (nget_mem hg))⟩
def lnkPtr (bs:List Nat) (x:Lnk):Value:=if x.to=ByteArray.empty then .pointer none else ptr (bs.getD x.f 0)
theorem ba_ne {s:ByteArray} (h:s≠ByteArray.empty):s.toList.isEmpty=false:=by
 cases hs:s.toList with
 |cons _ _=>rfl
 |nil=>
  exfalso;apply h
  have:s.data.toList=[]:=by rw [← Lib.toList_data];exact hs
  obtain ⟨⟨d⟩⟩:=s
  simp at this;subst this;rfl
theorem ba_nil {s:ByteArray} (h:s=ByteArray.empty):s.toList=[]:=by subst h;rw [Lib.toList_data];rfl
theorem on_core (fr to:ByteArray) (q:Value) (h:Sat w0 w (omap .string b (mapL bs l)::F)) (l1 l2:List (Value×Value))
  (h1:fr=ByteArray.empty∧l1=mapL bs l∨fr≠ByteArray.empty∧((mapL bs l).Perm l1∧(∀ p∈l1,p.1 ≠ .string fr)∨∃ v0,(mapL bs l).Perm ((.string fr,v0)::l1)))
  (h2:to=ByteArray.empty∧l2=l1∨to≠ByteArray.empty∧∃ l3,(l1.Perm l3∧(∀ p∈l3,p.1 ≠ .string to)∨∃ v0,l1.Perm ((.string to,v0)::l3))∧l2=(.string to,q)::l3) :
  Calls Tryz.prog 203 #[.agg #[.string fr,.string to,q],.map (some b)] w (Rtn fun _ w'=>Sat w0 w' (omap .string b l2::F)):=by
 have hb:=(h.alloc (.cells #[.string fr,.string to,q] 280)).pick1
 go_enter Tryz.func203,Tryz.ntmps203
 rcases h1 with ⟨hf,h1⟩|⟨hf,h1⟩
 ·have e1:=ba_nil hf
  clear hf
  subst h1
  rcases h2 with ⟨ht,h2⟩|⟨ht,l3,h3,h2⟩
  ·have e2:=ba_nil ht
   clear ht
   subst h2
   go_wp2
   go_end0
   exact ⟨_,rfl,hb.pick1.drop⟩
  ·have e2:=ba_ne ht
   clear ht
   have H2:=uQ h2;clear h2
   have H3:=uQ h3;clear h3
   go_wp2_with (at_mapUpdate;go_must (refine wpList_store (key:= .string to) rFz _ _ _ rFz Tryz.underlying68 Tryz.underlying9 rFz rFz rFz trivial hb l3 H3.out ?_);intro w1 hS1)
   go_end0
   rw [H2.out]
   exact ⟨_,rfl,hS1.pick1.drop⟩
 ·have e1:=ba_ne hf
  clear hf
  have H1:=uQ h1;clear h1
  rcases h2 with ⟨ht,h2⟩|⟨ht,l3,h3,h2⟩
  ·have e2:=ba_nil ht
   clear ht
   subst h2
   go_wp2_with (at_delete;go_must (refine wpList_drop (key:= .string fr) rFz _ _ rFz Tryz.underlying68 Tryz.underlying9 rFz rFz trivial hb l2 H1.out ?_);intro w1 hS1;have c0:=hS1.pick1.cellAt 0 _ rfl;have c1:=hS1.pick1.cellAt 1 _ rfl)
   go_end0
   exact ⟨_,rfl,hS1.pick1.drop⟩
  ·have e2:=ba_ne ht
   clear ht
   have H2:=uQ h2;clear h2
   have H3:=uQ h3;clear h3
   go_wp2_with (first
    |(at_delete;go_must (refine wpList_drop (key:= .string fr) rFz _ _ rFz Tryz.underlying68 Tryz.underlying9 rFz rFz trivial hb l1 H1.out ?_);intro w1 hS1;have c0:=hS1.pick1.cellAt 0 _ rfl;have c1:=hS1.pick1.cellAt 1 _ rfl;have c2:=hS1.pick1.cellAt 2 _ rfl)
    |(at_mapUpdate;go_must (refine wpList_store (key:= .string to) rFz _ _ _ rFz Tryz.underlying68 Tryz.underlying9 rFz rFz rFz trivial hS1 l3 H3.out ?_);intro w2 hS2))
   go_end0
   rw [H2.out]
   exact ⟨_,rfl,hS2.pick1.drop⟩
theorem on_c (x:Lnk) (h:Sat w0 w (omap .string b (mapL bs l)::F)) :
  Calls Tryz.prog 203 #[.agg #[.string x.fr,.string x.to,lnkPtr bs x],.map (some b)] w (Rtn fun _ w'=>Sat w0 w' (omap .string b (mapL bs (x.on l))::F)):=by
 have hn:=mapL_keys h
 obtain ⟨fr,to,f⟩:=x
 have key:∀ l1:Names,l1=(if fr=ByteArray.empty then l else ndel l fr)→(l1.map (·.1)).Nodup:=by
  rintro l1 rfl
  split
  ·exact hn
  ·exact hn.sublist ((List.filter_sublist).map _)
 have:=on_core fr to (lnkPtr bs ⟨fr,to,f⟩) h (mapL bs (if fr=ByteArray.empty then l else ndel l fr))
  (if to=ByteArray.empty then mapL bs (if fr=ByteArray.empty then l else ndel l fr) else (.string to,ptr (bs.getD f 0))::mapL bs (ndel (if fr=ByteArray.empty then l else ndel l fr) to)) ?_ ?_
 ·refine this.mono ?_
  rintro e w1 ⟨v,rfl,hS⟩
  refine ⟨v,rfl,?_⟩
  unfold Lnk.on
  simp only
  split
  ·rename_i ht;rw [if_pos ht]at hS;exact hS
  ·rename_i ht
   rw [if_neg ht]at hS
   exact hS.omap_perm (mapL_perm (nput_perm _ _ _)).symm
 ·by_cases hf:fr=ByteArray.empty
  ·exact .inl ⟨hf,by rw [if_pos hf]⟩
  ·exact .inr ⟨hf,by rw [if_neg hf];exact del_side hn fr⟩
 ·by_cases ht:to=ByteArray.empty
  ·exact .inl ⟨ht,by rw [if_pos ht]⟩
  ·refine .inr ⟨ht,_,del_side (key _ rfl) to,?_⟩
   rw [if_neg ht]
   simp [lnkPtr,ht]
end
end Go.Proofs.YtlimfgdbfadohaaGreatDoor
namespace Go.Sl
open Go
section
variable {P:Program}{ops:Array Oper}{Q:Exit→Act→World→Prop}{late:List Nat}{G:World→Prop}
def keeps (late:List Nat) (G:World→Prop) (i:Nat) (w w':World):Prop:=late.contains i=true∨G w'∨w'=w
def wpL (P:Program) (ops:Array Oper) (Q:Exit→Act→World→Prop) (late:List Nat) (G:World→Prop):Nat→Array Bool→Act→World→Prop
 |0,l,a,w=>Region.ready .any ops l=[]∧Q .normal a w
 |n+1,l,a,w=>(Region.ready .any ops l=[]→Q .normal a w) ∧
  ∀ i∈Region.ready .any ops l,wpOp P ops Q i (fun a' w'=>keeps late G i w w'∧wpL P ops Q late G n (l.setIfInBounds i true) a' w') a w
theorem wpAny_of_L:∀ (n:Nat) (l:Array Bool) (a:Act) (w:World),wpL P ops Q late G n l a w→wpAny P .any ops Q n l a w
 |0,_,_,_,h=>h
 |n+1,_,_,_,h=>⟨h.1,fun i hi=>wpOp_mono (fun a' w' h'=>wpAny_of_L n _ a' w' h'.2) (h.2 i hi)⟩
theorem wpL_begin {id:Nat}{a:Act}{w:World} (late:List Nat) (G:World→Prop) (hm:P.follows .mixedOrders=true)
  (h:wpL P ops Q late G ops.size (Array.replicate ops.size false) a w.drew):(Code.region id ops true).wp P Q a w:=
 wp_region_any hm (wpAny_of_L _ _ _ _ h)
def waitsFor (ops:Array Oper) (i:Nat):Nat→Nat→Bool
 |0,_=>false
 |n+1,j=>((ops[j]?).map fun o=>(o.after.any fun e=>Region.binds .any e && e.on==i) || (o.after.any fun e=>Region.binds .any e && waitsFor ops i n e.on)).getD false
def lateOk (ops:Array Oper) (late:List Nat) (i:Nat):Bool:=late.all fun j=>j==i || waitsFor ops i 8 j
def shutL (ops:Array Oper) (l:Array Bool):Prop:=∀ (k:Nat) (ok:Oper),ops[k]?=some ok→l.getD k false=true→∀ e∈ok.after,Region.binds .any e=true→l.getD e.on false=true
def shutB (ops:Array Oper) (l:Array Bool):Bool:=(List.range ops.size).all fun k => !l.getD k false || ((ops[k]?).map fun o=>o.after.all fun e => !Region.binds .any e || l.getD e.on false).getD true
theorem shutB_spec {l:Array Bool} (h:shutB ops l=true):shutL ops l:=by
 intro k ok hk hl e he hb
 have hlt:k<ops.size:=(Array.getElem?_eq_some_iff.1 hk).1
 have h1:=(List.all_eq_true.1 h) k (by simpa using hlt)
 simp only [hl,hk,Option.map_some,Option.getD_some,Bool.not_true,Bool.false_or]at h1
 obtain ⟨m,hm,rfl⟩:=Array.getElem_of_mem he
 have h2:=Array.all_eq_true.1 h1 m hm
 simpa [hb] using h2
theorem shutL_set {l:Array Bool}{j:Nat} (h:shutL ops l) (hj:j∈Region.ready .any ops l):shutL ops (l.setIfInBounds j true):=by
 obtain ⟨hun,oj,hoj,hall⟩:=mem_ready.1 hj
 have hmono:∀ k,l.getD k false=true→(l.setIfInBounds j true).getD k false=true:=by
  intro k hk
  by_cases hjk:j=k
  ·subst hjk
   rcases Nat.lt_or_ge j l.size with h'|h'
   ·simp [h']
   ·simp [Array.getElem?_eq_none h']at hk
  ·simp only [Array.getD_eq_getD_getElem?]at hk ⊢
   rw [Array.getElem?_setIfInBounds_ne hjk];exact hk
 intro k ok hk hl e he hb
 by_cases hjk:j=k
 ·subst hjk
  rw [hoj]at hk;cases hk
  exact hmono _ (hall e he hb)
 ·refine hmono _ (h k ok hk ?_ e he hb)
  simp only [Array.getD_eq_getD_getElem?]at hl ⊢
  rw [Array.getElem?_setIfInBounds_ne hjk]at hl;exact hl
theorem waitsFor_listed {l:Array Bool} (hs:shutL ops l) (i:Nat):∀ (n j:Nat),waitsFor ops i n j=true→(∀ oj,ops[j]?=some oj→∀ e∈oj.after,Region.binds .any e=true→l.getD e.on false=true)→l.getD i false=true
 |0,_,h,_=>by cases h
 |n+1,j,h,hj=>by
  unfold waitsFor at h
  cases ho:ops[j]? with
  |none=>rw [ho]at h;simp at h
  |some o=>
   rw [ho]at h
   simp only [Option.map_some,Option.getD_some,Bool.or_eq_true]at h
   rcases h with h|h
   ·obtain ⟨k,hk,h2⟩:=Array.any_eq_true.1 h
    simp only [Bool.and_eq_true,beq_iff_eq]at h2
    rw [← h2.2]
    exact hj o ho _ (Array.getElem_mem hk) h2.1
   ·obtain ⟨k,hk,h2⟩:=Array.any_eq_true.1 h
    simp only [Bool.and_eq_true]at h2
    have hl:=hj o ho _ (Array.getElem_mem hk) h2.1
    exact waitsFor_listed hs i n _ h2.2 (fun ok hok=>hs _ ok hok hl)
theorem wpL_first {i:Nat}{oi:Oper}{v:Value}{S:World→Prop} (hi:ops[i]?=some oi) (hsel:∀ (j:Nat) (o:Oper) cs b,ops[j]?=some o→o.op ≠ .select cs b)
  (hQ:∀ c a w,Q (.panic c) (a.put oi.dst v) w→Q (.panic c) a w)
  (hS:∀ j,waitsFor ops i 8 j=false→j≠i→∀ w w',S w→keeps late G j w w'→S w') :
  ∀ (n:Nat) (l:Array Bool) (a:Act) (w:World),shutL ops l →
   (∀ j oj,ops[j]?=some oj→j≠i→l.getD j true=false→(∀ e∈oj.after,Region.binds .any e=true→e.on≠i)→oi.apart ops oj=true) →
   i∈Region.ready .any ops l→YieldsIf P ops S oi v a→S w →
   wpL P ops Q late G n (l.setIfInBounds i true) (a.put oi.dst v) w→wpL P ops Q late G (n+1) l a w:=by
 intro n
 induction n with
 |zero=>
  intro l a w _ _ hr hy hs H
  refine ⟨(fun h=>(by rw [h]at hr;cases hr)),fun j hj=>?_⟩
  by_cases hji:j=i
  ·subst hji;exact hy.wpOp hi hs ⟨.inr (.inr rfl),H⟩
  ·have:=ready_mono hj hji
   rw [H.1]at this
   cases this
 |succ n ih=>
  intro l a w hsh hfree hr hy hs H
  refine ⟨(fun h=>(by rw [h]at hr;cases hr)),fun j hj=>?_⟩
  by_cases hji:j=i
  ·subst hji;exact hy.wpOp hi hs ⟨.inr (.inr rfl),H⟩
  ·have h1:=H.2 j (ready_mono hj hji)
   obtain ⟨hjun,oj,hoj,hall⟩:=mem_ready.1 hj
   have hiun:l.getD i false=false:=by
    have h0:=(mem_ready.1 hr).1
    rcases Nat.lt_or_ge i l.size with h'|h'
    ·simp [h']at h0 ⊢;exact h0
    ·simp [Array.getElem?_eq_none h']at h0
   have hnot:∀ e∈oj.after,Region.binds .any e=true→e.on≠i:=fun e he hb heq=>by
    have h1:=hall e he hb
    rw [heq,hiun]at h1
    cases h1
   have hwait:waitsFor ops i 8 j=false:=by
    cases hw:waitsFor ops i 8 j with
    |false=>rfl
    |true=>
     have:=waitsFor_listed hsh i 8 j hw (fun o ho=>by rw [hoj]at ho;cases ho;exact hall)
     rw [hiun]at this;cases this
   have h2:=wpOp_putIf hoj (hfree j oj hoj hji hjun hnot) (fun cs b=>hsel i oi cs b hi) (fun cs b=>hsel j oj cs b hoj) hQ hy h1
   have hfree':∀ k ok,ops[k]?=some ok→k≠i→(l.setIfInBounds j true).getD k true=false →
     (∀ e∈ok.after,Region.binds .any e=true→e.on≠i)→oi.apart ops ok=true:=fun k ok hok hki hun hno=>by
    refine hfree k ok hok hki ?_ hno
    by_cases hjk:j=k
    ·subst hjk;exact hjun
    ·rw [getD_set_ne true hjk]at hun;exact hun
   refine wpOp_mono (fun a' w' h3=>⟨h3.2.1,ih (l.setIfInBounds j true) a' w' (shutL_set hsh hj) hfree' (ready_mono hr (Ne.symm hji)) h3.1 (hS j hwait hji w w' hs h3.2.1) ?_⟩) h2
   rw [Array.setIfInBounds_comm _ _ hji]
   exact h3.2.2
theorem wpL_take {i:Nat}{oi:Oper}{v:Value}{n:Nat}{l:Array Bool}{a:Act}{w:World} (hi:ops[i]?=some oi)
  (hc:(Region.noSelect ops && Region.free .any ops l i && (Region.ready .any ops l).contains i && lateOk ops late i && shutB ops l)=true)
  (hQ:∀ c a w,Q (.panic c) (a.put oi.dst v) w→Q (.panic c) a w) (hy:YieldsIf P ops G oi v a) (hG:G w)
  (h:wpL P ops Q late G n (l.setIfInBounds i true) (a.put oi.dst v) w):wpL P ops Q late G (n+1) l a w:=by
 simp only [Bool.and_eq_true]at hc
 obtain ⟨⟨⟨⟨hs,hf⟩,hr⟩,hl⟩,hsh⟩:=hc
 refine wpL_first hi (Region.noSelect_spec hs) hQ ?_ n l a w (shutB_spec hsh) (Region.free_spec hi hf) (by simpa using hr) hy hG h
 intro j hno hji w w' hw hk
 rcases hk with hc|hk|rfl
 ·exfalso
  have h1:=(List.all_eq_true.1 hl) j (by simpa using hc)
  rw [hno,Bool.or_false]at h1
  exact hji (by simpa using h1)
 ·exact hk
 ·exact hw
theorem wpL_pure {i:Nat}{oi:Oper}{v:Value}{n:Nat}{l:Array Bool}{a:Act}{w:World} (hi:ops[i]?=some oi)
  (hc:(Region.noSelect ops && Region.free .any ops l i && (Region.ready .any ops l).contains i && shutB ops l)=true)
  (hQ:∀ c a w,Q (.panic c) (a.put oi.dst v) w→Q (.panic c) a w) (hy:Yields P ops oi v a)
  (h:wpL P ops Q late G n (l.setIfInBounds i true) (a.put oi.dst v) w):wpL P ops Q late G (n+1) l a w:=by
 simp only [Bool.and_eq_true]at hc
 obtain ⟨⟨⟨hs,hf⟩,hr⟩,hsh⟩:=hc
 exact wpL_first (S:=fun _=>True) hi (Region.noSelect_spec hs) hQ (fun _ _ _ _ _ _ _=>trivial) n l a w (shutB_spec hsh) (Region.free_spec hi hf) (by simpa using hr) hy.yieldsIf trivial h
theorem wpL_eff {i:Nat}{o:Oper}{n:Nat}{l:Array Bool}{a:Act}{w:World} (ho:ops[i]?=some o) (hr:Region.ready .any ops l=[i])
  (h:∀ K:Act→World→Prop,(∀ a' w',keeps late G i w w'→wpL P ops Q late G n (l.setIfInBounds i true) a' w'→K a' w') →
   if Region.wanted o (yielded ops a.tmps)=true then Oper.wp P o a w K Q else K (a.put o.dst undef) w):wpL P ops Q late G (n+1) l a w:=by
 refine ⟨(fun h0=>by rw [hr]at h0;cases h0),fun j hj=>?_⟩
 rw [hr]at hj
 obtain rfl:j=i:=by simpa using hj
 have:=h _ (fun a' w' h1 h2=>And.intro h1 h2)
 unfold wpOp
 rw [ho]
 show if Region.wanted o (yielded ops a.tmps)=true then _ else _
 split
 ·rename_i hw;rw [if_pos hw]at this;exact .inl this
 ·rename_i hw;rw [if_neg hw]at this;exact this
theorem wpL_done {n:Nat}{l:Array Bool}{a:Act}{w:World} (hr:Region.ready .any ops l=[]) (h:Q .normal a w):wpL P ops Q late G n l a w:=by
 cases n with
 |zero=>exact ⟨hr,h⟩
 |succ n=>exact ⟨fun _=>h,(by rw [hr];intro i hi;cases hi)⟩
end
end Go.Sl
namespace Go.Proofs.YtlimfgdbfadohaaGreatDoor
open Go Go.Sl Go.Med Go.MapKept Go.RowKit
attribute [local go_sem ↓] Go.wp_at_zero Go.wp_at_succ
section
variable {w0 w:World}{F:List HProp}{m fb nb b:Nat}{M:Med}{bs:List Nat}{wv:Value}{s:ByteArray}{l:Names}
theorem infoLnk:(Tryz.prog.info? 280).map (fun i=>(i.zero,i.size,i.bytes))=some (some (.agg #[.string ByteArray.empty,.string ByteArray.empty,.pointer none]),3,40):=by kernel_rfl
theorem link_c (x:Lnk) (h:Sat w0 w (medPt m M fb nb wv::omap .string nb (mapL bs M.now)::osl 280 3 wv (M.waits.flatMap (lnkCells bs))::F)) (hw:M.waits.length≤1099511627776) :
  Calls Tryz.prog 169 #[ptr m,.agg #[.string x.fr,.string x.to,lnkPtr bs x]] w
   (Rtn fun _ w'=>∃ wv',Sat w0 w' (medPt m (M.link x) fb nb wv'::omap .string nb (mapL bs (M.link x).now)::osl 280 3 wv' ((M.link x).waits.flatMap (lnkCells bs))::F)):=by
 obtain ⟨i,hi,hz0,hz1,hz2⟩:=info_parts infoLnk
 have hb:=(h.alloc (.cells #[.string x.fr,.string x.to,lnkPtr bs x] 280))
 have hon:=on_c (w:=(w.alloc (.cells #[.string x.fr,.string x.to,lnkPtr bs x] 280)).drew) x hb.pick2.drew
 have c2:=hb.pick1.cellAt 2 _ rfl
 have b0:=hb.cellAt 0 _ rfl
 have b1:=hb.cellAt 1 _ rfl
 have b2:=hb.cellAt 2 _ rfl
 have hoc:∀ u∈(#[.string x.fr,.string x.to,lnkPtr bs x]:Array Value).toList,u.oneCell'=true:=by
  intro u hu
  simp only [List.mem_cons,List.not_mem_nil,or_false]at hu
  rcases hu with rfl|rfl|rfl
  ·rfl
  ·rfl
  ·unfold lnkPtr;split <;> rfl
 have hlen:(M.waits.flatMap (lnkCells bs)).length=M.waits.length * 3:=by
  rw [List.length_flatMap];simp [lnkCells,List.map_const']
 have h63:(M.waits.flatMap (lnkCells bs)).length+3≤maxLen:=by unfold maxLen;omega
 have hby:((M.waits.flatMap (lnkCells bs)).length+3) * i.bytes≤140737488355328:=by rw [hz2];omega
 have hcs:lnkCells bs x=(#[.string x.fr,.string x.to,lnkPtr bs x]:Array Value).toList:=rfl
 have hfin:∀ wv',medPt m (M.link x) fb nb wv'=pt m (.cells #[.int .i64 M.room,.map (some fb),.map (some nb),wv',.bool M.armed,.int .i64 M.left,.bool M.off] 71 (0,0)):=fun _=>rfl
 have Hcs:=uQ hcs;clear hcs
 have Hlen:=uQ hlen;clear hlen
 have Hfin:=uQ hfin;clear hfin
 generalize lnkPtr bs x=q at *
 go_enter Tryz.func169,Tryz.ntmps169
 go_wp2_with fail
 refine wpL_begin [5] (fun w'=>w'.cell? ⟨m,2,none⟩=some (.map (some nb))∧w'.cell? ⟨w.heap.size,0,none⟩=some (.string x.fr)∧w'.cell? ⟨w.heap.size,1,none⟩=some (.string x.to)∧w'.cell? ⟨w.heap.size,2,none⟩=some q) kRz ?_
 have hG:=And.intro c2 (And.intro b0 (And.intro b1 b2))
 refine wpL_take (i:=0) (v:=?_) rfl kRz (fun _ _ _ h=>h) (Or.inl ⟨by rfl,?_⟩) aQ ?_;rotate_left;focus ((intro wq hq;go_split_ands;go_simp);first|done|(with_reducible rfl))
 refine wpL_pure (i:=1) (v:=?_) rfl kRz (fun _ _ _ h=>h) (Or.inl ⟨by rfl,?_⟩) ?_;rotate_left;focus ((intro wq;go_simp);first|done|(with_reducible rfl))
 refine wpL_pure (i:=2) (v:=?_) rfl kRz (fun _ _ _ h=>h) (Or.inl ⟨by rfl,?_⟩) ?_;rotate_left;focus ((intro wq;go_simp);first|done|(with_reducible rfl))
 refine wpL_pure (i:=3) (v:=?_) rfl kRz (fun _ _ _ h=>h) (Or.inl ⟨by rfl,?_⟩) ?_;rotate_left;focus ((intro wq;go_simp);first|done|(with_reducible rfl))
 refine wpL_take (i:=4) (v:=?_) rfl kRz (fun _ _ _ h=>h) (Or.inl ⟨by rfl,?_⟩) aQ ?_;rotate_left;focus ((intro wq hq;go_split_ands;go_simp);first|done|(with_reducible rfl))
 refine wpL_eff (i:=5) rfl kRz (fun K hK=>?_)
 go_simp
 refine hon.mono ?_
 rintro e w1 ⟨v,rfl,hS1⟩
 refine hK _ _ (.inl rfl) ?_
 clear hK K hG
 refine wpL_done kRz ?_
 have hS2:=hS1.pick2
 have d3:=hS2.cellAt 3 _ rfl
 have b0:=hS1.pick1.cellAt 0 _ rfl
 have b1:=hS1.pick1.cellAt 1 _ rfl
 have b2:=hS1.pick1.cellAt 2 _ rfl
 clear hS2
 go_wp2_with fail
 refine wpL_begin [7,8,9,10] (fun w'=>w'.cell? ⟨m,3,none⟩=some wv∧w'.cell? ⟨w.heap.size,0,none⟩=some (.string x.fr)∧w'.cell? ⟨w.heap.size,1,none⟩=some (.string x.to)∧w'.cell? ⟨w.heap.size,2,none⟩=some q) kRz ?_
 have hG:=And.intro d3 (And.intro b0 (And.intro b1 b2))
 refine wpL_pure (i:=0) (v:=?_) rfl kRz (fun _ _ _ h=>h) (Or.inl ⟨by rfl,?_⟩) ?_;rotate_left;focus ((intro wq;go_simp);first|done|(with_reducible rfl))
 refine wpL_pure (i:=1) (v:=?_) rfl kRz (fun _ _ _ h=>h) (Or.inl ⟨by rfl,?_⟩) ?_;rotate_left;focus ((intro wq;go_simp);first|done|(with_reducible rfl))
 refine wpL_pure (i:=2) (v:=?_) rfl kRz (fun _ _ _ h=>h) (Or.inl ⟨by rfl,?_⟩) ?_;rotate_left;focus ((intro wq;go_simp);first|done|(with_reducible rfl))
 refine wpL_pure (i:=3) (v:=?_) rfl kRz (fun _ _ _ h=>h) (Or.inl ⟨by rfl,?_⟩) ?_;rotate_left;focus ((intro wq;go_simp);first|done|(with_reducible rfl))
 refine wpL_take (i:=4) (v:=?_) rfl kRz (fun _ _ _ h=>h) (Or.inl ⟨by rfl,?_⟩) aQ ?_;rotate_left;focus ((intro wq hq;go_split_ands;go_simp);first|done|(with_reducible rfl))
 refine wpL_take (i:=5) (v:=?_) rfl kRz (fun _ _ _ h=>h) (Or.inl ⟨by rfl,?_⟩) aQ ?_;rotate_left;focus ((intro wq hq;go_split_ands;go_simp);first|done|(with_reducible rfl))
 refine wpL_eff (i:=6) rfl kRz (fun K hK=>?_)
 go_simp
 have h7:=hS1.drew.alloc (.cells #[.string x.fr,.string x.to,q] 280)
 have d3:=h7.pick3.cellAt 3 _ rfl
 have b0:=h7.pick2.cellAt 0 _ rfl
 have b1:=h7.pick2.cellAt 1 _ rfl
 have b2:=h7.pick2.cellAt 2 _ rfl
 refine hK _ _ (.inr <| .inl <| And.intro d3 (And.intro b0 (And.intro b1 b2))) ?_
 clear hK K
 refine wpL_eff (i:=7) rfl kRz (fun K hK=>?_)
 refine step_append (w0:=w0) rFz _ _ _ rFz _ i _ Tryz.underlying69 hi hz0 hz1 rFz oQ rFz rFz hoc (h7.pick4) (rdsl_new _ _ _ 3 1 1 rFz) h63 hby ?_
 intro v2 w2 hS2 hne
 obtain ⟨g2,n2,k2,rfl⟩:=hne (by simp)
 have e3:=hS2.pick4.cellAt 3 _ rfl
 have g3:=hS2.pick4.freeAt 3
 have b0:=hS2.pick3.cellAt 0 _ rfl
 have b1:=hS2.pick3.cellAt 1 _ rfl
 have b2:=hS2.pick3.cellAt 2 _ rfl
 refine hK _ _ (.inl rfl) ?_
 clear hK K
 refine wpL_pure (i:=8) (v:=?_) rfl kRz (fun _ _ _ h=>h) (Or.inl ⟨by rfl,?_⟩) ?_;rotate_left;focus ((intro wq;go_simp);first|done|(with_reducible rfl))
 refine wpL_pure (i:=9) (v:=?_) rfl kRz (fun _ _ _ h=>h) (Or.inl ⟨by rfl,?_⟩) ?_;rotate_left;focus ((intro wq;go_simp);first|done|(with_reducible rfl))
 refine wpL_eff (i:=10) rfl kRz (fun K hK=>?_)
 go_simp
 refine hK _ _ (.inl rfl) ?_
 clear hK K
 refine wpL_done kRz ?_
 go_wp2
 go_end0
 refine ⟨_,rfl,.slice (some ⟨g2,0,none⟩) n2 k2,?_⟩
 have h9:=hS2.pick4.set 3 (.slice (some ⟨g2,0,none⟩) n2 k2)
 rw [Hfin.out]
 unfold Med.link
 simp only [List.flatMap_append,List.flatMap_cons,List.flatMap_nil,List.append_nil]
 rw [Hcs.out]
 exact h9.sel 5 [0,3,1] rfl rfl
end
section
variable {w0 w:World}{F:List HProp}{m fb nb b:Nat}{M:Med}{bs:List Nat}{wv v:Value}{s:ByteArray}{l:Bs}
theorem bys_len (l:Bs):(bys l).length=l.length:=by simp [bys]
theorem bys_one (l:Bs):∀ u∈bys l,u.oneCell'=true:=by
 intro u hu
 obtain ⟨b,_,rfl⟩:=List.mem_map.1 hu
 rfl
theorem bys_append (l k:Bs):bys (l++k)=bys l++bys k:=by simp [bys]
theorem bys_take (l:Bs) (n:Nat):bys (l.take n)=(bys l).take n:=by simp [bys,List.map_take]
theorem clone_c (h:Sat w0 w F) (hr:rdsl 1 v (bys l) w) (hl:l.length≤140737488355328) :
  Calls Tryz.prog 26 #[v] w (Rtn fun v' w'=>Sat w0 w' (bsl v' l::F)∧∃ a n c,v' = .slice a n c):=by
 obtain ⟨a,n,c,rfl,hn,hc⟩:=hr
 rw [bys_len,Nat.mul_one]at hn
 subst hn
 cases a with
 |none=>
  have:l=[]:=by
   cases l with
   |nil=>rfl
   |cons x l=>obtain ⟨b,hb,_⟩:=hc 0 _ rfl;cases hb
  subst this
  refine (Tryz.bytes_Clone_nil 0 c w).mono ?_
  rintro e w1 ⟨rfl,rfl⟩
  exact ⟨_,rfl,Sat.osl_nil.2 h,_,_,_,rfl⟩
 |some a=>
  refine (Tryz.bytes_Clone_at a l.length c (l.map fun b=>(b.toNat:Int)) w (by simp) hl ?_).mono ?_
  ·intro i hi
   obtain ⟨b,hb,hx⟩:=hc i (.int .u8 (l[i]).toNat) (by simp [bys,hi])
   cases hb
   rw [hx]
   simp [hi]
  ·rintro e w1 ⟨v',rfl,ho,hne,hb⟩
   obtain ⟨hlen,hv|⟨g,cap,cur,rfl,hbg,hg,hnc,hcm,hcs,htk⟩⟩:=ho
   ·exact absurd hv.1 hne
   ·refine ⟨_,rfl,?_,_,_,_,rfl⟩
    refine (h.fresh hb.os hb.tape hb.output hb.size hbg hg hb.block).osl_of_pt ?_ hnc oQ hcm ?_
    ·rw [bys_len];omega
    ·rw [htk];simp [bys]
def chgV (c:Chg) (bv:Value):Value:= .agg #[.bool c.cut,.int .i64 c.n,bv]
theorem chgon_cut (n:Nat) (bv:Value) (h:Sat w0 w (bsl v l::F)) (hn:n≤l.length) :
  Calls Tryz.prog 236 #[.agg #[.bool true,.int .i64 n,bv],v] w (Rtn fun v' w'=>Sat w0 w' (bsl v' (l.take n)::F)∧∃ a n c,v' = .slice a n c):=by
 have hb:=(h.alloc (.cells #[.bool true,.int .i64 n,bv] 128))
 have b0:=hb.cellAt 0 _ rfl
 have b1:=hb.cellAt 1 _ rfl
 rcases hb.pick1.osl_cases with ⟨rfl,hl,h'⟩|⟨g,m,cap,cs,rfl,hl,hm,hc,hcm,htk,hp⟩
 ·have hl0:l=[]:=by simpa [bys] using hl
  subst hl0
  obtain rfl:n=0:=by simpa using hn
  go_enter Tryz.func236,Tryz.ntmps236
  go_wp2
  go_ret
  exact ⟨_,rfl,Sat.osl_nil.2 h'.drop,_,_,_,rfl⟩
 ·rw [bys_len,Nat.mul_one]at hl
  subst hl
  have e1:(n:Int)≤(cap:Int):=by omega
  have e0:(0:Int)≤(n:Int):=by omega
  have Htk:=uQ htk;clear htk
  have hfin:Sat w0 (w.alloc (.cells #[.bool true,.int .i64 n,bv] 128)) (bsl (.slice (some ⟨g,0,none⟩) n n) (l.take n)::F):=by
   refine (hp.pick1.drop).osl_of_pt ?_ (Nat.le_refl _) oQ oQ ?_
   ·rw [bys_len,List.length_take];omega
   ·rw [bys_take,← Htk.out];simp [List.take_take,Nat.min_eq_left hn]
  go_enter Tryz.func236,Tryz.ntmps236
  go_wp2
  go_ret
  exact ⟨_,rfl,hfin,_,_,_,rfl⟩
theorem info8p:∃ i:TypeInfo,Tryz.prog.info? 5=some i∧i.zero=some (.int .u8 0)∧i.size=1∧i.bytes=1:=by
 obtain ⟨i,hi,hz0,hz1,hz2⟩:=info_parts info8
 exact ⟨i,hi,hz0,hz1,hz2⟩
theorem chgon_app (n:Int) (bv:Value) (cb:Bs) (h:Sat w0 w (bsl v l::F)) (hr:Ro w0 F (rdsl 1 bv (bys cb))) (hl:l.length+cb.length≤140737488355328) (hbv:∃ a n c,bv = .slice a n c) :
  Calls Tryz.prog 236 #[.agg #[.bool false,.int .i64 n,bv],v] w (Rtn fun v' w'=>Sat w0 w' (bsl v' (l++cb)::F)∧∃ a n c,v' = .slice a n c):=by
 obtain ⟨i,hi,hz0,hz1,hz2⟩:=info8p
 have hb:=(h.alloc (.cells #[.bool false,.int .i64 n,bv] 128))
 have b0:=hb.cellAt 0 _ rfl
 have b2:=hb.cellAt 2 _ rfl
 have hcl:=clone_c hb.drew hb.drew.pick1.rd oQ
 have h63:(bys l).length+(bys cb).length≤maxLen:=by rw [bys_len,bys_len];unfold maxLen;omega
 have hby:((bys l).length+(bys cb).length) * i.bytes≤140737488355328:=by rw [bys_len,bys_len,hz2];omega
 obtain ⟨ba,bn,bc,rfl⟩:=hbv
 go_enter Tryz.func236,Tryz.ntmps236
 go_wp2_with fail
 refine wpL_begin [4,5] (fun w'=>w'.cell? ⟨w.heap.size,2,none⟩=some (.slice ba bn bc)) kRz ?_
 refine wpL_pure (i:=0) (v:=?_) rfl kRz (fun _ _ _ h=>h) (Or.inl ⟨by rfl,?_⟩) ?_;rotate_left;focus ((intro wq;go_simp);first|done|(with_reducible rfl))
 refine wpL_pure (i:=2) (v:=?_) rfl kRz (fun _ _ _ h=>h) (Or.inl ⟨by rfl,?_⟩) ?_;rotate_left;focus ((intro wq;go_simp);first|done|(with_reducible rfl))
 refine wpL_take (i:=3) (v:=?_) rfl kRz (fun _ _ _ h=>h) (Or.inl ⟨by rfl,?_⟩) aQ ?_;rotate_left;focus ((intro wq hq;go_split_ands;go_simp);first|done|(with_reducible rfl))
 refine wpL_eff (i:=1) rfl kRz (fun K hK=>?_)
 go_simp
 refine hcl.mono ?_
 rintro e w1 ⟨v1,rfl,hS1,a1,n1,c1,rfl⟩
 have b2:=hS1.pick1.cellAt 2 _ rfl
 refine hK _ _ (.inr (.inl b2)) ?_
 clear hK K
 refine wpL_eff (i:=4) rfl kRz (fun K hK=>?_)
 refine step_append (w0:=w0) rFz _ _ _ rFz _ i _ Tryz.underlying27 hi hz0 hz1 rFz oQ rFz rFz (bys_one cb) hS1 (hr _ hS1.drop.drop.drop) h63 hby ?_
 intro v2 w2 hS2 _
 refine hK _ _ (.inl rfl) ?_
 clear hK K
 refine wpL_pure (i:=5) (v:=?_) rfl kRz (fun _ _ _ h=>h) (Or.inl ⟨by rfl,?_⟩) ?_;rotate_left;focus ((intro wq;go_simp);first|done|(with_reducible rfl))
 refine wpL_done kRz ?_
 go_wp2
 go_ret
 have h9:=hS2.sel 3 [0] rfl rfl
 have hsh:=hS2.rd
 obtain ⟨a2,n2,c2,rfl,_⟩:=hsh
 refine ⟨_,rfl,?_,_,_,_,rfl⟩
 unfold bsl
 rw [bys_append]
 exact h9
end
section
variable {w0 w:World}{F:List HProp}{m fb nb b:Nat}{M:Med}{bs:List Nat}{wv v bv:Value}{s:ByteArray}{l:Bs}{f:Fil}
def chgOk (c:Chg) (l:Bs):Prop:=(c.cut=true→c.n≤l.length)∧(c.cut=false→l.length+c.b.length≤140737488355328)
theorem chgon_c (c:Chg) (h:Sat w0 w (bsl v l::F)) (hr:Ro w0 F (rdsl 1 bv (bys c.b))) (hbv:∃ a n c,bv = .slice a n c) (hc:chgOk c l) :
  Calls Tryz.prog 236 #[chgV c bv,v] w (Rtn fun v' w'=>Sat w0 w' (bsl v' (c.on l)::F)∧∃ a n c,v' = .slice a n c):=by
 obtain ⟨cut,n,cb⟩:=c
 cases cut
 ·exact chgon_app n bv cb h hr (hc.2 rfl) hbv
 ·exact chgon_cut n bv h (hc.1 rfl)
theorem bsl_shape (h:Sat w0 w (bsl v l::F)):∃ a n c,v = .slice a n c:=by
 obtain ⟨a,n,c,rfl,_⟩:=h.rd
 exact ⟨a,n,c,rfl⟩
theorem Ro.bsl {R:List HProp} (v:Value) (l:Bs):Ro w0 (bsl v l::R) (rdsl 1 v (bys l)):=fun w hw=>hw.rd
theorem infoChg:(Tryz.prog.info? 128).map (fun i=>(i.zero,i.size,i.bytes))=some (some (.agg #[.bool false,.int .i64 0,.slice none 0 0]),3,40):=by kernel_rfl
theorem chgs_snoc (ws:List (Chg×Value)) (p:Chg×Value):chgs (ws++[p])=star (chgs ws) (bsl p.2 p.1.b):=by
 unfold chgs
 rw [List.map_append,stars_append]
 simp [stars_one]
theorem do_c {fv nv:Value}{ws:List (Chg×Value)} (c:Chg) (h:Sat w0 w (FilRaw b f fv nv wv ws++bsl bv c.b::F)) (hws:ws.map (·.1)=f.waits) (hc:chgOk c f.now) (hw:f.waits.length≤1099511627776) :
  Calls Tryz.prog 205 #[ptr b,chgV c bv] w (Rtn fun _ w'=>Sat w0 w' (FilRep b (f.do c)::F)):=by
 obtain ⟨i,hi,hz0,hz1,hz2⟩:=info_parts infoChg
 obtain ⟨ba,bn,bc,rfl⟩:=bsl_shape (h.sel 6 [5] rfl rfl)
 have hb:=h.alloc (.cells #[.bool c.cut,.int .i64 c.n,.slice ba bn bc] 128)
 have hb':Sat w0 _ (bsl nv f.now::bsl (.slice ba bn bc) c.b::pt w.heap.size _::filPt b fv nv wv::bsl fv f.fast::osl 128 3 wv (ws.flatMap chgCells)::chgs ws::F):=hb.sel 7 [3,6,0,1,2,4,5] rfl rfl
 have hon:=chgon_c c hb'.drew (Ro.bsl _ _) ⟨_,_,_,rfl⟩ hc
 obtain ⟨na,nn,nc,rfl⟩:=bsl_shape hb'
 have b0:=hb.cellAt 0 _ rfl
 have b1:=hb.cellAt 1 _ rfl
 have b2:=hb.cellAt 2 _ rfl
 have c1:=hb.pick1.cellAt 1 _ rfl
 have hoc:∀ u∈(#[.bool c.cut,.int .i64 c.n,.slice ba bn bc]:Array Value).toList,u.oneCell'=true:=by
  intro u hu
  simp only [List.mem_cons,List.not_mem_nil,or_false]at hu
  rcases hu with rfl|rfl|rfl <;> rfl
 have hwl:ws.length=f.waits.length:=by rw [← hws];simp
 have hlen:(ws.flatMap chgCells).length=f.waits.length * 3:=by
  rw [List.length_flatMap,← hwl];simp [chgCells,List.map_const']
 have h63:(ws.flatMap chgCells).length+3≤maxLen:=by unfold maxLen;omega
 have hby:((ws.flatMap chgCells).length+3) * i.bytes≤140737488355328:=by rw [hz2];omega
 have Hlen:=uQ hlen;clear hlen
 have Hws:=uQ hws;clear hws
 have Hwl:=uQ hwl;clear hwl
 unfold chgV at *
 go_enter Tryz.func205,Tryz.ntmps205
 go_wp2_with fail
 refine wpL_begin [6,7,8,9] (fun w'=>w'.cell? ⟨b,1,none⟩=some (.slice na nn nc)∧w'.cell? ⟨w.heap.size,0,none⟩=some (.bool c.cut)∧w'.cell? ⟨w.heap.size,1,none⟩=some (.int .i64 c.n)∧w'.cell? ⟨w.heap.size,2,none⟩=some (.slice ba bn bc)) kRz ?_
 have hG:=And.intro c1 (And.intro b0 (And.intro b1 b2))
 refine wpL_pure (i:=0) (v:=?_) rfl kRz (fun _ _ _ h=>h) (Or.inl ⟨by rfl,?_⟩) ?_;rotate_left;focus ((intro wq;go_simp);first|done|(with_reducible rfl))
 refine wpL_take (i:=1) (v:=?_) rfl kRz (fun _ _ _ h=>h) (Or.inl ⟨by rfl,?_⟩) aQ ?_;rotate_left;focus ((intro wq hq;go_split_ands;go_simp);first|done|(with_reducible rfl))
 refine wpL_pure (i:=2) (v:=?_) rfl kRz (fun _ _ _ h=>h) (Or.inl ⟨by rfl,?_⟩) ?_;rotate_left;focus ((intro wq;go_simp);first|done|(with_reducible rfl))
 refine wpL_pure (i:=3) (v:=?_) rfl kRz (fun _ _ _ h=>h) (Or.inl ⟨by rfl,?_⟩) ?_;rotate_left;focus ((intro wq;go_simp);first|done|(with_reducible rfl))
 refine wpL_pure (i:=4) (v:=?_) rfl kRz (fun _ _ _ h=>h) (Or.inl ⟨by rfl,?_⟩) ?_;rotate_left;focus ((intro wq;go_simp);first|done|(with_reducible rfl))
 refine wpL_take (i:=5) (v:=?_) rfl kRz (fun _ _ _ h=>h) (Or.inl ⟨by rfl,?_⟩) aQ ?_;rotate_left;focus ((intro wq hq;go_split_ands;go_simp);first|done|(with_reducible rfl))
 refine wpL_eff (i:=6) rfl kRz (fun K hK=>?_)
 go_simp
 refine hon.mono ?_
 rintro e w1 ⟨v1,rfl,hS1,a1,n1,k1,rfl⟩
 refine hK _ _ (.inl rfl) ?_
 clear hK K
 refine wpL_pure (i:=7) (v:=?_) rfl kRz (fun _ _ _ h=>h) (Or.inl ⟨by rfl,?_⟩) ?_;rotate_left;focus ((intro wq;go_simp);first|done|(with_reducible rfl))
 refine wpL_pure (i:=8) (v:=?_) rfl kRz (fun _ _ _ h=>h) (Or.inl ⟨by rfl,?_⟩) ?_;rotate_left;focus ((intro wq;go_simp);first|done|(with_reducible rfl))
 have d1:=hS1.pick3.cellAt 1 _ rfl
 have g1:=hS1.pick3.freeAt 1
 refine wpL_eff (i:=9) rfl kRz (fun K hK=>?_)
 go_simp
 refine hK _ _ (.inl rfl) ?_
 clear hK K hG
 refine wpL_done kRz ?_
 have hS2:=hS1.pick3.set 1 (.slice a1 n1 k1)
 generalize w1.setCell _ _=w2 at *
 clear d1 g1
 have d2:=hS2.cellAt 2 _ rfl
 have b0:=hS2.pick3.cellAt 0 _ rfl
 have b1:=hS2.pick3.cellAt 1 _ rfl
 have b2:=hS2.pick3.cellAt 2 _ rfl
 go_wp2_with fail
 refine wpL_begin [7,8,9,10] (fun w'=>w'.cell? ⟨b,2,none⟩=some wv∧w'.cell? ⟨w.heap.size,0,none⟩=some (.bool c.cut)∧w'.cell? ⟨w.heap.size,1,none⟩=some (.int .i64 c.n)∧w'.cell? ⟨w.heap.size,2,none⟩=some (.slice ba bn bc)) kRz ?_
 have hG:=And.intro d2 (And.intro b0 (And.intro b1 b2))
 refine wpL_pure (i:=0) (v:=?_) rfl kRz (fun _ _ _ h=>h) (Or.inl ⟨by rfl,?_⟩) ?_;rotate_left;focus ((intro wq;go_simp);first|done|(with_reducible rfl))
 refine wpL_pure (i:=1) (v:=?_) rfl kRz (fun _ _ _ h=>h) (Or.inl ⟨by rfl,?_⟩) ?_;rotate_left;focus ((intro wq;go_simp);first|done|(with_reducible rfl))
 refine wpL_pure (i:=2) (v:=?_) rfl kRz (fun _ _ _ h=>h) (Or.inl ⟨by rfl,?_⟩) ?_;rotate_left;focus ((intro wq;go_simp);first|done|(with_reducible rfl))
 refine wpL_pure (i:=3) (v:=?_) rfl kRz (fun _ _ _ h=>h) (Or.inl ⟨by rfl,?_⟩) ?_;rotate_left;focus ((intro wq;go_simp);first|done|(with_reducible rfl))
 refine wpL_take (i:=4) (v:=?_) rfl kRz (fun _ _ _ h=>h) (Or.inl ⟨by rfl,?_⟩) aQ ?_;rotate_left;focus ((intro wq hq;go_split_ands;go_simp);first|done|(with_reducible rfl))
 refine wpL_take (i:=5) (v:=?_) rfl kRz (fun _ _ _ h=>h) (Or.inl ⟨by rfl,?_⟩) aQ ?_;rotate_left;focus ((intro wq hq;go_split_ands;go_simp);first|done|(with_reducible rfl))
 refine wpL_eff (i:=6) rfl kRz (fun K hK=>?_)
 go_simp
 have h7:=hS2.drew.alloc (.cells #[.bool c.cut,.int .i64 c.n,.slice ba bn bc] 128)
 have d2:=h7.pick1.cellAt 2 _ rfl
 have b0:=h7.pick4.cellAt 0 _ rfl
 have b1:=h7.pick4.cellAt 1 _ rfl
 have b2:=h7.pick4.cellAt 2 _ rfl
 refine hK _ _ (.inr <| .inl <| And.intro d2 (And.intro b0 (And.intro b1 b2))) ?_
 clear hK K
 have h8:Sat w0 _ (osl 128 3 wv (ws.flatMap chgCells)::filPt b fv (.slice a1 n1 k1) wv::bsl (.slice a1 n1 k1) (c.on f.now)::bsl (.slice ba bn bc) c.b::bsl fv f.fast::chgs ws::pt w.heap.size _::F):=h7.sel 8 [6,1,2,3,5,7,4] rfl rfl
 refine wpL_eff (i:=7) rfl kRz (fun K hK=>?_)
 refine step_append (w0:=w0) rFz _ _ _ rFz _ i _ Tryz.underlying74 hi hz0 hz1 rFz oQ rFz rFz hoc h8 (rdsl_new _ _ _ 3 1 1 rFz) h63 hby ?_
 intro v2 w3 hS3 hne
 obtain ⟨g2,n2,k2,rfl⟩:=hne (by simp)
 have e2:=hS3.pick1.cellAt 2 _ rfl
 have g3:=hS3.pick1.freeAt 2
 have b0:=(hS3.sel 7 [6] rfl rfl).cellAt 0 _ rfl
 have b1:=(hS3.sel 7 [6] rfl rfl).cellAt 1 _ rfl
 have b2:=(hS3.sel 7 [6] rfl rfl).cellAt 2 _ rfl
 refine hK _ _ (.inl rfl) ?_
 clear hK K
 refine wpL_pure (i:=8) (v:=?_) rfl kRz (fun _ _ _ h=>h) (Or.inl ⟨by rfl,?_⟩) ?_;rotate_left;focus ((intro wq;go_simp);first|done|(with_reducible rfl))
 refine wpL_pure (i:=9) (v:=?_) rfl kRz (fun _ _ _ h=>h) (Or.inl ⟨by rfl,?_⟩) ?_;rotate_left;focus ((intro wq;go_simp);first|done|(with_reducible rfl))
 refine wpL_eff (i:=10) rfl kRz (fun K hK=>?_)
 go_simp
 refine hK _ _ (.inl rfl) ?_
 clear hK K
 refine wpL_done kRz ?_
 go_wp2
 go_end0
 refine ⟨_,rfl,?_⟩
 have h9:=hS3.pick1.set 2 (.slice (some ⟨g2,0,none⟩) n2 k2)
 refine FilRep.shut (fv:=fv) (nv:= .slice a1 n1 k1) (wv:= .slice (some ⟨g2,0,none⟩) n2 k2) (ws:=ws++[(c,.slice ba bn bc)]) ?_ ?_
 ·rw [List.map_append,Hws.out];rfl
 ·have h10:Sat w0 _ (bsl (.slice ba bn bc) c.b::chgs ws::filPt b fv (.slice a1 n1 k1) (.slice (some ⟨g2,0,none⟩) n2 k2)::bsl fv f.fast::bsl (.slice a1 n1 k1) (c.on f.now)::osl 128 3 (.slice (some ⟨g2,0,none⟩) n2 k2) (ws.flatMap chgCells++[.bool c.cut,.int .i64 c.n,.slice ba bn bc])::F):=h9.sel 7 [3,5,0,4,2,1] rfl rfl
  have h11:=Sat.star.2 h10.pick1
  rw [← chgs_snoc ws (c,.slice ba bn bc)]at h11
  unfold FilRaw
  rw [List.flatMap_append]
  simp only [List.flatMap_cons,List.flatMap_nil,List.append_nil,chgCells]
  exact h11.sel 5 [1,2,3,4,0] rfl rfl
end
section
variable {w:World}{s:ByteArray}
theorem goodC_iff (c:UInt8):goodC c=decide ((97≤(c.toNat:Int)∧(c.toNat:Int)≤122)∨(48≤(c.toNat:Int)∧(c.toNat:Int)≤57)∨(c.toNat:Int)=46∨(c.toNat:Int)=45):=by
 rw [Bool.eq_iff_iff]
 have e1:∀ k:UInt8,(c==k)=decide (c.toNat=k.toNat):=fun k=>by
  rw [Bool.eq_iff_iff];simp [UInt8.toNat_inj]
 simp only [goodC,Bool.or_eq_true,Bool.and_eq_true,decide_eq_true_eq,UInt8.le_iff_toNat_le,e1]
 simp only [UInt8.reduceToNat]
 omega
theorem all_take_succ (l:List UInt8) (k:Nat) (h:k<l.length):(l.take (k+1)).all goodC=((l.take k).all goodC && goodC l[k]):=by
 rw [List.take_succ_eq_append_getElem h,List.all_append];simp
theorem good_c (s:ByteArray) (w:World) (hs:s.size≤9223372036854775807) :
  Calls Tryz.prog 207 #[.string s] w (Rtn fun v w'=>v = .bool (good s)∧w=w'):=by
 go_enter Tryz.func207,Tryz.ntmps207
 by_cases h1:(s.size:Int)<1
 ·go_wp2
  go_ret
  exact ⟨.bool false,rfl,by rw [show good s=false from by unfold good;simp;omega],rfl⟩
 by_cases h2:24<(s.size:Int)
 ·have h1':decide ((s.size:Int)<1)=false:=by simpa using h1
  go_wp2
  go_ret
  exact ⟨.bool false,rfl,by rw [show good s=false from by unfold good;simp;omega],rfl⟩
 have h1':decide ((s.size:Int)<1)=false:=by simpa using h1
 have h2':decide (24<(s.size:Int))=false:=by simpa using h2
 go_wp2
 go_loop [15] (fun i=>∃ k:Nat,k≤s.size∧i = .int .i64 k∧(s.data.toList.take k).all goodC=true) (fun i=>s.size - (intOf i).toNat)
 case atStart=>exact ⟨0,Nat.zero_le _,rfl,by simp⟩
 case round=>
  obtain ⟨k,hk,rfl,hall⟩:=hrel
  have Hall:=uQ hall;clear hall
  by_cases hlt:k<s.size
  ·have Hc:=uQ (goodC_iff s[k])
   have Hn:=uQ (all_take_succ s.data.toList k (by simpa using hlt))
   have hcls:(s[k].toNat:Int)≤44∨(s[k].toNat:Int)=45∨(s[k].toNat:Int)=46∨(s[k].toNat:Int)=47∨(48≤(s[k].toNat:Int)∧(s[k].toNat:Int)≤57)∨(58≤(s[k].toNat:Int)∧(s[k].toNat:Int)≤96)∨(97≤(s[k].toNat:Int)∧(s[k].toNat:Int)≤122)∨123≤(s[k].toNat:Int):=by omega
   have hbad:goodC s[k]=false→good s=false:=by
    intro hgc
    unfold good
    have:s.data.toList.all goodC=false:=by
     rw [List.all_eq_false]
     exact ⟨s[k],by exact List.getElem_mem (by simpa using hlt),by simpa using hgc⟩
    rw [this];simp
   have Hbad:=uQ hbad;clear hbad
   have hgd:goodC s[k]=true→(s.data.toList.take (k+1)).all goodC=true:=by
    intro hgc
    rw [Hn.out,Hall.out]
    exact hgc
   have Hgd:=uQ hgd;clear hgd
   rcases hcls with g1|g1|g1|g1|⟨g1,g2⟩|⟨g1,g2⟩|⟨g1,g2⟩|g1
   ·have b46:((s[k].toNat:Int)==46)=false:=by rw [beq_eq_false_iff_ne];omega
    have b45:((s[k].toNat:Int)==45)=false:=by rw [beq_eq_false_iff_ne];omega
    go_wp2
    go_ret
    exact ⟨.bool false,rfl,by rw [Hbad.out (by rw [Hc.out];simp;omega)],rfl⟩
   ·go_wp2
    go_round
    case rel=>exact ⟨k+1,by omega,by go_num,Hgd.out (by rw [Hc.out];simp;omega)⟩
    case measure=>simp [intOf];omega
   ·go_wp2
    go_round
    case rel=>exact ⟨k+1,by omega,by go_num,Hgd.out (by rw [Hc.out];simp;omega)⟩
    case measure=>simp [intOf];omega
   ·have b46:((s[k].toNat:Int)==46)=false:=by rw [beq_eq_false_iff_ne];omega
    have b45:((s[k].toNat:Int)==45)=false:=by rw [beq_eq_false_iff_ne];omega
    go_wp2
    go_ret
    exact ⟨.bool false,rfl,by rw [Hbad.out (by rw [Hc.out];simp;omega)],rfl⟩
   ·go_wp2
    go_round
    case rel=>exact ⟨k+1,by omega,by go_num,Hgd.out (by rw [Hc.out];simp;omega)⟩
    case measure=>simp [intOf];omega
   ·have b57:decide ((s[k].toNat:Int)≤57)=false:=by simp;omega
    have b46:((s[k].toNat:Int)==46)=false:=by rw [beq_eq_false_iff_ne];omega
    have b45:((s[k].toNat:Int)==45)=false:=by rw [beq_eq_false_iff_ne];omega
    go_wp2
    go_ret
    exact ⟨.bool false,rfl,by rw [Hbad.out (by rw [Hc.out];simp;omega)],rfl⟩
   ·go_wp2
    go_round
    case rel=>exact ⟨k+1,by omega,by go_num,Hgd.out (by rw [Hc.out];simp;omega)⟩
    case measure=>simp [intOf];omega
   ·have b122:decide ((s[k].toNat:Int)≤122)=false:=by simp;omega
    have b57:decide ((s[k].toNat:Int)≤57)=false:=by simp;omega
    have b46:((s[k].toNat:Int)==46)=false:=by rw [beq_eq_false_iff_ne];omega
    have b45:((s[k].toNat:Int)==45)=false:=by rw [beq_eq_false_iff_ne];omega
    go_wp2
    go_ret
    exact ⟨.bool false,rfl,by rw [Hbad.out (by rw [Hc.out];simp;omega)],rfl⟩
  ·go_wp2
   go_ret
   refine ⟨.bool true,rfl,?_,rfl⟩
   have:k=s.size:=by omega
   subst this
   have:=Hall.out
   rw [List.take_of_length_le (by simp)]at this
   rw [show good s=true from by unfold good;simp only [this];simp;omega]
end
end Go.Proofs.YtlimfgdbfadohaaGreatDoor
