import Derived.Test.YtadhomdmbcldkaaGreatDoorJ3
set_option linter.unusedSimpArgs false
open Go.Proofs.Tryz
set_option maxRecDepth 20000
open Go Go.Sl Go.MapKept Go.RowKit
open Go.Proofs.YtadhomdmbcldkaaGreatDoor Go.Proofs.Y
variable {w0 w:World}{v lv gV fv nv wv:Value}{F R L L':List aF}{K d b:Nat}{P:Program}{ops:Array Oper}{a:Act}{Q:Exit->Act->World->Prop}{dst:Option Tmp}{ty T:TypeId}{after:Array Edge}{x y:Operand}{rest:List Oper}{cs:Array Value}
theorem zD0{p:Prop} (h:p:=by show 2<=65536;decide):p:=h
namespace Go.Proofs.Y
open Go.ak
theorem sQ {p : Prop} (h : p := by first | assumption | exact dJ _ _ rfl | exact dJ _ _ aQ | exact dJ _ _ (anS aQ)) : p := h
theorem pQ {p : Prop} (h : p := by first | (simp only [eH, Value.cells]; (try go_frame); first | done | rfl) | rfl) : p := h
theorem gQ {p : Prop} (h : p := by go_frame; first | done | rfl) : p := h
theorem fQ {p : Prop} (h : p := by first | rfl | assumption | exact anS aQ) : p := h
theorem wQ {p : Prop} (h : p := by with_reducible rfl) : p := h
end Go.Proofs.Y
set_option linter.unusedVariables false
set_option maxHeartbeats 128000000
namespace Go.Tab
open Go.aj (Bs num)
structure Slot (V:Type) where
 st:Nat
 key:Bs
 val:V
def home (k:Bs) (c:Nat):Nat:=num (k.take 4)%c
def pos (k:Bs) (c d:Nat):Nat:=(home k c+d)%c
section
variable {V:Type}{s s':List (Slot V)}{x y:Slot V}{k l:Bs}{v u:V}{d e i j c:Nat}
def Slot.stop (x:Slot V) (k:Bs):Prop:=x.st=0\/(x.st=1/\x.key=k)
instance (x:Slot V) (k:Bs):Decidable (x.stop k):=by unfold Slot.stop;infer_instance
def wo (s:List (Slot V)) (k:Bs) (i:Nat):Prop:=∃ x,s[i]?=some x/\x.stop k
structure Ends (s:List (Slot V)) (k:Bs) (d:Nat):Prop where
 lt:d<s.length
 here:wo s k (pos k s.length d)
 no:∀ e,e<d->¬ wo s k (pos k s.length e)
structure Good (s:List (Slot V)):Prop where
 pow:∃ j,s.length=2^j/\3<=j
 st:∀ x∈s,x.st<=2
 key:∀ x∈s,x.key.length=32
 reach:∀ i x,s[i]?=some x->x.st=1->∃ d,d<s.length/\pos x.key s.length d=i/\∀ e,e<d->¬ wo s x.key (pos x.key s.length e)
def Has (s:List (Slot V)) (k:Bs) (v:V):Prop:=∃ (i:Nat) (x:Slot V),s[i]?=some x/\x.st=1/\x.key=k/\x.val=v
theorem Good.lU (h:Good s):0<s.length:=by
 obtain ⟨j,h1,_⟩:=h.pow;rw [h1];exact Nat.two_pow_pos j
theorem rX (h:0<c):pos k c d<c:=anD _ h
theorem QC (h:0<c):home k c<c:=anD _ h
theorem akE (h:0<c):(pos k c d+1)%c=pos k c (d+1):=by
 unfold pos;rw [Nat.mod_add_mod,apq]
theorem akF (h:0<c):pos k c 0=home k c:=by
 unfold pos;rw [aml];exact ao3 (QC h)
theorem akC (h:i<c):∃ d,d<c/\pos k c d=i:=by
 have hc:0<c:=oQ;have hh:home k c<c:=QC hc;by_cases hi:home k c<=i
 ·refine ⟨i-home k c,by omega,?_⟩;unfold pos;rw [show home k c+(i-home k c)=i by omega];exact ao3 h
 ·refine ⟨i+c-home k c,by omega,?_⟩;unfold pos;rw [show home k c+(i+c-home k c)=i+c by omega,Nat.add_mod_right];exact ao3 h
theorem akD (hd:d<c) (he:e<c) (h:pos k c d=pos k c e):d=e:=by
 have hc:0<c:=oQ;have hh:home k c<c:=QC hc;unfold pos at h;have f:∀ d,d<c->(home k c+d)%c=if home k c+d<c then home k c+d else home k c+d-c:=λd hd=>by
  split
  ·exact ao3 ‹_›
  ·rw [Nat.mod_eq_sub_mod oQ];exact ao3 oQ
 rw [f d hd,f e he]at h;split at h <;> split at h <;> omega
theorem least {p:Nat->Prop}:∀ (n:Nat),(∃ d,d<n/\p d)->∃ d,d<n/\p d/\∀ e,e<d->¬ p e
 |0,h=>by obtain ⟨d,hd,_⟩:=h;omega
 |n+1,h=>by
  by_cases h1:∃ d,d<n/\p d
  ·obtain ⟨d,h2,h3,h4⟩:=least n h1;exact ⟨d,by omega,h3,h4⟩
  ·obtain ⟨d,h2,h3⟩:=h;refine ⟨d,h2,h3,λe he h5=>h1 ⟨e,by omega,h5⟩⟩
theorem PK (h:Good s) (hf:∃ x∈s,x.st=0):∃ d,Ends s k d:=by
 obtain ⟨x,hx,h0⟩:=hf;obtain ⟨i,hi,he⟩:=aoI hx;obtain ⟨d,h1,h2⟩:=akC (k:=k) hi;obtain ⟨d',a,b,c⟩:=least (p:=λd=>wo s k (pos k s.length d)) s.length ⟨d,h1,by rw [h2];exact ⟨x,by rw [aaJ hi,he],.inl h0⟩⟩;exact ⟨d',a,b,c⟩
theorem Ends.unique (h:Ends s k d) (h':Ends s k e):d=e:=by
 rcases Nat.lt_trichotomy d e with q|q|q
 ·exact absurd h.here (h'.no d q)
 ·exact q
 ·exact absurd h'.here (h.no e q)
theorem Good.ends (h:Good s) (hi:s[i]?=some x) (hf:x.st=1):∃ d,Ends s x.key d/\pos x.key s.length d=i:=by
 obtain ⟨d,h1,h2,h3⟩:=h.reach i x hi hf;exact ⟨d,⟨h1,⟨x,by rw [h2];exact hi,.inr ⟨hf,rfl⟩⟩,h3⟩,h2⟩
theorem Ends.slot (h:Ends s k d):∃ x,s[pos k s.length d]?=some x/\x.stop k:=h.here
theorem PI (he:Ends s k d) (hx:s[pos k s.length d]?=some x) (hf:x.st=1):x.key=k/\Has s k x.val:=by
 obtain ⟨y,hy,hs⟩:=he.here;rw [hx]at hy;cases hy;rcases hs with h|⟨_,h⟩
 ·omega
 ·exact ⟨h,_,x,hx,hf,h,rfl⟩
theorem JO (g:Good s) (he:Ends s k d) (hx:s[pos k s.length d]?=some x) (hf:x.st≠1):x.st=0/\∀ v,¬ Has s k v:=by
 obtain ⟨y,hy,hs⟩:=he.here;rw [hx]at hy;cases hy;refine ⟨?_,λv hv=>?_⟩
 ·rcases hs with h|⟨h,_⟩
  ·exact h
  ·exact absurd h hf
 ·obtain ⟨i,z,hz,h1,rfl,_⟩:=hv;obtain ⟨d',h2,h3⟩:=g.ends hz h1;obtain rfl:=he.unique h2;rw [h3,hz]at hx;cases hx;exact hf h1
theorem Good.one (g:Good s) (hx:s[i]?=some x) (hy:s[j]?=some y) (h1:x.st=1) (h2:y.st=1) (hk:x.key=y.key):i=j:=by
 obtain ⟨d,a,b⟩:=g.ends hx h1;obtain ⟨e,a',b'⟩:=g.ends hy h2;rw [<-hk]at a' b';obtain rfl:=a.unique a';rw [<-b,<-b']
theorem CZ (hi:i<s.length):(s.set i x)[i]?=some x:=by rw [apv hi]
theorem Aa (h:i≠j):(s.set i x)[j]?=s[j]?:=apE h
theorem SH (g:Good s) (he:Ends s k d) (hx:s[pos k s.length d]?=some x) (hf:x.st=1) (v:V) :
  Good (s.set (pos k s.length d) ⟨x.st,x.key,v⟩)/\∀ k' v',Has (s.set (pos k s.length d) ⟨x.st,x.key,v⟩) k' v'↔if k'=k then v'=v else Has s k' v':=by
 obtain ⟨hk,_⟩:=PI he hx hf;have hlt:pos k s.length d<s.length:=rX g.lU;generalize hp:pos k s.length d=p at *
 have hst:∀ q l,wo (s.set p ⟨x.st,x.key,v⟩) l q↔wo s l q:=λq l=>by
  unfold wo;by_cases h:p=q
  ·subst h;rw [CZ hlt,hx];constructor
   ·rintro ⟨y,hy,hs⟩;cases hy;exact ⟨x,rfl,hs⟩
   ·rintro ⟨y,hy,hs⟩;cases hy;exact ⟨_,rfl,hs⟩
  ·rw [Aa h]
 have hmem:x∈s:=acr hx;refine ⟨⟨by rw [ahu];exact g.pow,λy hy=>?_,λy hy=>?_,λq y hq hy=>?_⟩,λk' v'=>?_⟩
 ·rcases ajr hy with h|rfl
  ·exact g.st y h
  ·exact g.st x hmem
 ·rcases ajr hy with h|rfl
  ·exact g.key y h
  ·exact g.key x hmem
 ·rw [ahu];by_cases h:p=q
  ·subst h;rw [CZ hlt]at hq;cases hq;obtain ⟨d',a,b,c⟩:=g.reach p x hx hf;exact ⟨d',a,b,λe h hh=>c e h ((hst _ _).1 hh)⟩
  ·rw [Aa h]at hq;obtain ⟨d',a,b,c⟩:=g.reach q y hq hy;exact ⟨d',a,b,λe h hh=>c e h ((hst _ _).1 hh)⟩
 ·constructor
  ·rintro ⟨q,y,hq,h1,h2,h3⟩;by_cases h:p=q
   ·subst h;rw [CZ hlt]at hq;cases hq;rw [adU (h2.symm.trans hk)];exact h3.symm
   ·rw [Aa h]at hq;rw [abL λhkk:k'=k=>h (g.one hx hq hf h1 (hk.trans (hkk.symm.trans h2.symm)))];exact ⟨q,y,hq,h1,h2,h3⟩
  ·intro h;split at h
   ·rename_i hkk;exact ⟨p,_,CZ hlt,hf,hk.trans hkk.symm,h.symm⟩
   ·rename_i hkk;obtain ⟨q,y,hq,h1,h2,h3⟩:=h;have:p≠q:=λh=>by subst h;rw [hx]at hq;cases hq;exact hkk (h2.symm.trans hk)
    exact ⟨q,y,by rw [Aa this];exact hq,h1,h2,h3⟩
theorem Lr (g:Good s) (he:Ends s k d) (hx:s[pos k s.length d]?=some x) (hf:x.st≠1) (hk:k.length=32) (v:V) :
  Good (s.set (pos k s.length d) ⟨1,k,v⟩)/\∀ k' v',Has (s.set (pos k s.length d) ⟨1,k,v⟩) k' v'↔if k'=k then v'=v else Has s k' v':=by
 obtain ⟨h0,hno⟩:=JO g he hx hf;have hlt:pos k s.length d<s.length:=rX g.lU;have hst:∀ q l,q≠pos k s.length d->(wo (s.set (pos k s.length d) ⟨1,k,v⟩) l q↔wo s l q):=λq l h=>by
  unfold wo;rw [Aa (Ne.symm h)]
 have hp0:∀ l,wo s l (pos k s.length d):=λl=>⟨x,hx,.inl h0⟩;refine ⟨⟨by rw [ahu];exact g.pow,λy hy=>?_,λy hy=>?_,λq y hq hy=>?_⟩,λk' v'=>?_⟩
 ·rcases ajr hy with h|rfl
  ·exact g.st y h
  ·exact (by decide:1<=2)
 ·rcases ajr hy with h|rfl
  ·exact g.key y h
  ·exact hk
 ·rw [ahu];by_cases h:pos k s.length d=q
  ·subst h;rw [CZ hlt]at hq;cases hq;refine ⟨d,he.lt,rfl,λe h=>?_⟩;have hne:pos k s.length e≠pos k s.length d:=λhh=>by have:=akD (Nat.lt_trans h he.lt) he.lt hh;omega
   exact λhh=>he.no e h ((hst _ _ hne).1 hh)
  ·rw [Aa h]at hq;obtain ⟨d',a,b,c⟩:=g.reach q y hq hy;refine ⟨d',a,b,λe h=>?_⟩;have hne:pos y.key s.length e≠pos k s.length d:=λhh=>c e h (by rw [hh];exact hp0 _);exact λhh=>c e h ((hst _ _ hne).1 hh)
 ·constructor
  ·rintro ⟨q,y,hq,h1,h2,h3⟩;by_cases h:pos k s.length d=q
   ·subst h;rw [CZ hlt]at hq;cases hq;rw [adU h2.symm];exact h3.symm
   ·rw [Aa h]at hq;rw [abL λhkk:k'=k=>hno v' ⟨q,y,hq,h1,h2.trans hkk,h3⟩];exact ⟨q,y,hq,h1,h2,h3⟩
  ·intro h;split at h
   ·rename_i hkk;exact ⟨_,_,CZ hlt,rfl,hkk.symm,h.symm⟩
   ·obtain ⟨q,y,hq,h1,h2,h3⟩:=h;have:pos k s.length d≠q:=λh=>by subst h;rw [hx]at hq;cases hq;exact hf h1
    exact ⟨q,y,by rw [Aa this];exact hq,h1,h2,h3⟩
def kS (s:List (Slot V)):Nat:=s.countP λx=>x.st==1
def used (s:List (Slot V)):Nat:=s.countP λx=>x.st != 0
theorem C9 (p:Slot V->Bool):∀ (s:List (Slot V)) (i:Nat) (x y:Slot V),s[i]?=some x->(s.set i y).countP p+(if p x=true then 1 else 0)=s.countP p+(if p y=true then 1 else 0)
 |[],_,_,_,h=>by simp at h
 |a::s,0,x,y,h=>by
  obtain rfl:a=x:=by simpa using h
  rw [List.set_cons_zero,List.countP_cons,List.countP_cons];omega
 |a::s,i+1,x,y,h=>by
  rw [List.set_cons_succ,List.countP_cons,List.countP_cons];have:=C9 p s i x y yL0;omega
theorem P8 (h:used s<s.length):∃ x∈s,x.st=0:=by
 apply Classical.byContradiction;intro hn;have:used s=s.length:=by
  unfold used;rw [List.countP_eq_length];intro x hx;have:x.st≠0:=λh0=>hn ⟨x,hx,h0⟩;simpa using this
 omega
structure Tb (V:Type) where
 slots:List (Slot V)
 n:Nat
 gone:Nat
structure Tb.Ok (t:Tb V):Prop where
 good:Good t.slots
 n:t.n=kS t.slots
 gone:t.n+t.gone=used t.slots
 load:4*(t.n+t.gone)<=3*t.slots.length
 size:t.slots.length<=8+4*(t.n+t.gone)
theorem Tb.Ok.free {t:Tb V} (h:t.Ok):∃ x∈t.slots,x.st=0:=P8 (by have:=h.gone;have:=h.load;have:=h.good.lU;omega)
theorem Tb.Ok.ends {t:Tb V} (h:t.Ok) (k:Bs):∃ d,Ends t.slots k d:=PK h.good h.free
def Tb.Is (t:Tb V) (m:Bs->Option V):Prop:=∀ k v,Has t.slots k v↔m k=some v
def put (m:Bs->Option V) (k:Bs) (v:V):Bs->Option V:=λl=>if l=k then some v else m l
theorem Kz {t:Tb V}{m:Bs->Option V} (hm:t.Is m) (h:∀ k' v',Has s' k' v'↔if k'=k then v'=v else Has t.slots k' v') (n g:Nat):(⟨s',n,g⟩:Tb V).Is (put m k v):=λk' v'=>by
 rw [show (⟨s',n,g⟩:Tb V).slots=s' from rfl,h];unfold put;split
 ·exact ⟨λe=>by rw [e],λe=>(aiJ e).symm⟩
 ·exact hm k' v'
theorem abg {t:Tb V} (h:t.Ok) (he:Ends t.slots k d) (hx:t.slots[pos k t.slots.length d]?=some x) (hf:x.st=1) (v:V) :
  (⟨t.slots.set (pos k t.slots.length d) ⟨x.st,x.key,v⟩,t.n,t.gone⟩:Tb V).Ok:=by
 have h1:=C9 (λx=>x.st==1) t.slots _ x ⟨x.st,x.key,v⟩ hx;have h2:=C9 (λx=>x.st != 0) t.slots _ x ⟨x.st,x.key,v⟩ hx;refine ⟨(SH h.good he hx hf v).1,?_,?_,by simp only [ahu];exact h.load,by simp only [ahu];exact h.size⟩
 ·have:=h.n;unfold kS at *;simp only at *;omega
 ·have:=h.gone;unfold used at *;simp only at *;omega
theorem abe {t:Tb V} (h:t.Ok) (hl:4*(t.n+t.gone+1)<=3*t.slots.length) (he:Ends t.slots k d) (hx:t.slots[pos k t.slots.length d]?=some x) (hf:x.st≠1) (hk:k.length=32) (v:V) :
  (⟨t.slots.set (pos k t.slots.length d) ⟨1,k,v⟩,t.n+1,t.gone⟩:Tb V).Ok:=by
 have h0:=(JO h.good he hx hf).1;have h1:=C9 (λx=>x.st==1) t.slots _ x ⟨1,k,v⟩ hx;have h2:=C9 (λx=>x.st != 0) t.slots _ x ⟨1,k,v⟩ hx;refine ⟨(Lr h.good he hx hf hk v).1,?_,?_,?_,?_⟩
 ·have:=h.n;unfold kS at *;simp [h0]at h1 ⊢;omega
 ·have:=h.gone;unfold used at *;simp [h0]at h2 ⊢;omega
 ·simp only [ahu];omega
 ·have:=h.size;simp only [ahu];omega
structure Half (old cur:List (Slot V)) (j:Nat):Prop where
 good:Good cur
 has:∀ k v,Has cur k v↔Has (old.take j) k v
 nf:kS cur=kS (old.take j)
 nu:used cur=kS (old.take j)
theorem acV (h:s[j]?=some x):Has (s.take (j+1)) k v↔Has (s.take j) k v\/(x.st=1/\x.key=k/\x.val=v):=by
 have hj:j<s.length:=(acZ.1 h).1;have e:s.take (j+1)=s.take j++[x]:=by rw [aeN,h];rfl
 rw [e];unfold Has;constructor
 ·rintro ⟨i,y,hy,a,b,c⟩;by_cases hi:i<(s.take j).length
  ·rw [aek hi]at hy;exact .inl ⟨i,y,hy,a,b,c⟩
  ·rw [aew oQ]at hy;cases hz:i-(s.take j).length with
   |zero=>rw [hz]at hy;cases hy;exact .inr ⟨a,b,c⟩
   |succ z=>rw [hz]at hy;simp at hy
 ·rintro (⟨i,y,hy,a,b,c⟩|⟨a,b,c⟩)
  ·exact ⟨i,y,by rw [aek (acZ.1 hy).1];exact hy,a,b,c⟩
  ·exact ⟨(s.take j).length,x,by simp,a,b,c⟩
theorem ML (h:s[j]?=some x):kS (s.take (j+1))=kS (s.take j)+(if x.st=1 then 1 else 0):=by
 unfold kS;rw [aeN,h,List.countP_append];simp [List.countP_cons]
theorem Yr (s:List (Slot V)) (j:Nat):kS (s.take j)<=kS s:=by
 unfold kS;exact (List.take_sublist j s).countP_le
theorem Half.skip {old cur:List (Slot V)} (h:Half old cur j) (hx:old[j]?=some x) (hf:x.st≠1):Half old cur (j+1):=
 ⟨h.good,λk v=>by rw [acV hx,h.has];exact ⟨.inl,λq=>q.elim id λq=>absurd q.1 hf⟩,by rw [ML hx,abL hf];exact h.nf,by rw [ML hx,abL hf];exact h.nu⟩
theorem Half.fresh {old cur:List (Slot V)} (go:Good old) (h:Half old cur j) (hx:old[j]?=some x) (hf:x.st=1) (u:V):¬ Has cur x.key u:=by
 rw [h.has];rintro ⟨i,y,hy,a,b,c⟩;have hi:i<(old.take j).length:=(acZ.1 hy).1;have hij:i<j:=by rw [adt]at hi;omega
 have hy':old[i]?=some y:=by rw [List.getElem?_take_of_lt hij]at hy;exact hy
 have:=go.one hy' hx a hf b;omega
theorem Half.step {old cur:List (Slot V)} (go:Good old) (h:Half old cur j) (hx:old[j]?=some x) (hf:x.st=1) (he:Ends cur x.key d) :
  Half old (cur.set (pos x.key cur.length d) x) (j+1):=by
 obtain ⟨y,hy,hs⟩:=he.slot;have Zt:y.st≠1:=λh1=>h.fresh go hx hf y.val (PI he hy h1).2;obtain ⟨h0,_⟩:=JO h.good he hy Zt;obtain ⟨st,key,val⟩:=x;obtain rfl:st=1:=hf;obtain ⟨g,hh⟩:=Lr h.good he hy Zt (go.key _ (acr hx)) val;have h1:=C9 (λx=>x.st==1) cur _ y ⟨1,key,val⟩ hy;have h2:=C9 (λx=>x.st != 0) cur _ y ⟨1,key,val⟩ hy;refine ⟨g,λk v=>?_,?_,?_⟩
 ·rw [hh,acV hx];split
  ·rename_i hk;subst hk;constructor
   ·intro e;exact .inr ⟨rfl,rfl,e.symm⟩
   ·rintro (q|⟨_,_,e⟩)
    ·exact absurd ((h.has _ _).2 q) (h.fresh go hx rfl v)
    ·exact e.symm
  ·rename_i hk;rw [h.has];exact ⟨.inl,λq=>q.elim id λq=>absurd q.2.1.symm hk⟩
 ·rw [ML hx,adU rfl,<-h.nf];unfold kS at *;simp [h0]at h1 ⊢;omega
 ·rw [ML hx,adU rfl,<-h.nu];unfold used at *;simp [h0]at h2 ⊢;omega
theorem Half.done {old cur:List (Slot V)} (h:Half old cur old.length):Good cur/\(∀ k v,Has cur k v↔Has old k v)/\kS cur=kS old/\used cur=kS old:=by
 have h1:=h.has;have h2:=h.nf;have h3:=h.nu;rw [aeH]at h1 h2 h3;exact ⟨h.good,h1,h2,h3⟩
end
end Go.Tab
namespace Go.Seg
def Log.next (L:Log):Int:=match L.l.getLast? with
 |none=>0
 |some s=>s.1+1
end Go.Seg
namespace Go.Proofs.Y
open Go.ak
section
variable {bv dv x:Value}{q p m:Nat}{L:Seg.Log}{M:ak}
theorem Md (l:List (Int×Int)) (i:Nat) (s:Int×Int) (h:l[i]?=some s):(iy l)[2*i]?=some (.int .i64 s.1)/\(iy l)[2*i+1]?=some (.int .i64 s.2):=by
 induction l generalizing i with
 |nil=>simp at h
 |cons a l ih=>
  cases i with
  |zero=>
   obtain rfl:a=s:=by simpa using h
   exact ⟨rfl,rfl⟩
  |succ i=>
   have e1:iy (a::l)=.int .i64 a.1 :: .int .i64 a.2::iy l:=rfl;have h':l[i]?=some s:=by simpa using h
   rw [e1,show 2*(i+1)=2*i+1+1 by omega];exact ih i h'
end
end Go.Proofs.Y
namespace Go.Seg
open Go.ak
structure aZ where
 seg:Int
 at_:Int
 size:Int
def aZ.zero:aZ:=⟨0,0,0⟩
def mag:Bs:=[72,79,65,82,68,83,69,71]
def Log.grow (L:Log) (M:ak) (b:Bs):(Log×ak)×aZ×Int:=
 match L.l.getLast? with
 |none=>((L,M),aZ.zero,0)
 |some s=>
  if (M.append (name s.1) b).2=0 then (({ L with l:=L.l.dropLast++[(s.1,s.2+(b.length:Int))] },(M.append (name s.1) b).1),⟨s.1,s.2,b.length⟩,0)
  else ((L,(M.append (name s.1) b).1),aZ.zero,(M.append (name s.1) b).2)
def Log.shut (L:Log) (M:ak):(Log×ak)×Int:=
 match L.l.getLast? with
 |none=>((L,M),0)
 |some s=>
  if L.on=true then
   if (M.sync (name s.1)).2=0 then (({ L with on:=false },(M.sync (name s.1)).1),0)
   else ((L,(M.sync (name s.1)).1),(M.sync (name s.1)).2)
  else ((L,M),0)
def Log.afN (L:Log) (M:ak) (b:Bs):(Log×ak)×aZ×Int:=
 if 1048576<=L.next then ((L,M),aZ.zero,16)
 else if (M.create (name L.next)).2≠0 then ((L,(M.create (name L.next)).1),aZ.zero,(M.create (name L.next)).2)
 else if ((M.create (name L.next)).1.append (name L.next) (mag++b)).2=0 then
  (({ L with l:=L.l++[(L.next,8+(b.length:Int))],on:=true,fresh:=L.fresh+1 },((M.create (name L.next)).1.append (name L.next) (mag++b)).1),⟨L.next,8,b.length⟩,0)
 else if ((M.create (name L.next)).1.append (name L.next) (mag++b)).2=11 then
  ((L,(((M.create (name L.next)).1.append (name L.next) (mag++b)).1.remove (name L.next)).1),aZ.zero,
   if (((M.create (name L.next)).1.append (name L.next) (mag++b)).1.remove (name L.next)).2=0 then 11 else (((M.create (name L.next)).1.append (name L.next) (mag++b)).1.remove (name L.next)).2)
 else ((L,((M.create (name L.next)).1.append (name L.next) (mag++b)).1),aZ.zero,((M.create (name L.next)).1.append (name L.next) (mag++b)).2)
def Log.begin (L:Log) (M:ak) (b:Bs):(Log×ak)×aZ×Int:=
 if (L.shut M).2=0 then (L.shut M).1.1.afN (L.shut M).1.2 b else ((L.shut M).1,aZ.zero,(L.shut M).2)
def Log.fits (L:Log) (n:Nat):Bool:=L.on && decide ((L.l.getLast?.map (·.2)).getD 0+n<=L.limit)
def Log.append (L:Log) (M:ak) (x:aj.aJ):(Log×ak)×aZ×Int:=
 if (aj.encode x).2≠0 then ((L,M),aZ.zero,(aj.encode x).2)
 else if L.fits (aj.encode x).1.length=true then L.grow M (aj.encode x).1 else L.begin M (aj.encode x).1
def Xh:aj.aJ:=⟨2,aj.zero32,[]⟩
def Log.at (L:Log) (n:Int):Option Nat:=L.l.findIdx? (λs=>s.1==n)
def Log.find (L:Log) (n:Int):Int:=match L.at n with
 |some i=>i
 |none=> -1
def Log.without (L:Log) (i:Nat):Log:=
 ⟨L.limit,L.l.eraseIdx i,if i+1=L.l.length then false else L.on,if (L.l.length:Int)-L.fresh<=i then L.fresh-1 else L.fresh⟩
def Log.remove (L:Log) (M:ak) (n:Int):(Log×ak)×Int:=
 match L.at n with
 |none=>((L,M),9)
 |some i=>if (M.remove (name n)).2=0 then ((L.without i,(M.remove (name n)).1),0) else ((L,(M.remove (name n)).1),(M.remove (name n)).2)
def Log.size (L:Log) (n:Int):Int:=match L.at n with
 |none=>0
 |some i=>(L.l.getD i (0,0)).2
def Log.bytes (L:Log) (M:ak) (n:Int):Bs×Int:=match L.at n with
 |none=>([],9)
 |some _=>M.all (name n)
structure Log.Ok (L:Log):Prop where
 limit:128<=L.limit/\L.limit<=1048576
 rise:(L.l.map (·.1)).Pairwise (· < ·)
 nums:∀ s∈L.l,0<=s.1/\s.1<1048576
 sizes:∀ s∈L.l,0<=s.2/\s.2<=33554432
 fresh:0<=L.fresh/\L.fresh<=L.l.length
 on:L.on=true->L.l≠[]
theorem abN:∀ (l:List Int) (a:Int),l.Pairwise (· < ·)->(∀ x∈l,a<=x)->(∀ x∈l,x<1048576)->a<=1048576->(l.length:Int)<=1048576-a
 |[],a,_,_,_,h=>by simp;omega
 |x::l,a,hp,h1,h2,h3=>by
  obtain ⟨hx,hp'⟩:=aeZ.1 hp;have e1:=h1 x (.head _);have e2:=h2 x (.head _);have:=abN l (x+1) hp' (λy hy=>by have:=hx y hy;omega) (λy hy=>h2 y (.tail _ hy)) oQ;rw [aev];omega
theorem Log.Ok.len {L:Log} (h:L.Ok):L.l.length<=1048576:=by
 have:=abN (L.l.map (·.1)) 0 h.rise (by intro x hx;obtain ⟨s,hs,rfl⟩:=adu.1 hx;exact (h.nums s hs).1) (by intro x hx;obtain ⟨s,hs,rfl⟩:=adu.1 hx;exact (h.nums s hs).2) oQ;rw [abl]at this;omega
theorem Log.Ok.without {L:Log} (h:L.Ok) (i:Nat) (hi:i<L.l.length):(L.without i).Ok:=by
 have hsub:(L.l.eraseIdx i).Sublist L.l:=List.eraseIdx_sublist _ _;have hlen:(L.l.eraseIdx i).length=L.l.length-1:=List.length_eraseIdx_of_lt hi;have hf:=h.fresh;refine ⟨h.limit,h.rise.sublist (hsub.map _),λs hs=>h.nums s (hsub.mem hs),λs hs=>h.sizes s (hsub.mem hs),?_,?_⟩
 ·unfold Log.without;simp only [hlen];split <;> omega
 ·unfold Log.without;simp only;split
  ·intro hh;cases hh
  ·intro _ e;have:=aeO List.length e;rw [hlen]at this;simp at this;omega
theorem Log.Jw {L:Log}{n:Int}{i:Nat} (h:L.at n=some i):i<L.l.length/\∃ s,L.l[i]?=some s/\s.1=n:=by
 unfold Log.at at h;rw [List.findIdx?_eq_some_iff_getElem]at h;obtain ⟨h1,h2,_⟩:=h;exact ⟨h1,_,aaJ h1,by simpa using h2⟩
theorem Log.Ok.remove {L:Log} (h:L.Ok) (M:ak) (n:Int):(L.remove M n).1.1.Ok:=by
 unfold Log.remove;split;· exact h
 rename_i i hi;split
 ·exact h.without i (Log.Jw hi).1
 ·exact h
def Log.back:Nat->Log->ak->(Log×ak)×Int
 |0,L,M=>(({ L with on:=false },M),0)
 |k+1,L,M=>
  match L.l.getLast? with
  |none=>(({ L with on:=false },M),0)
  |some s=>if (L.remove M s.1).2=0 then Log.back k (L.remove M s.1).1.1 (L.remove M s.1).1.2 else L.remove M s.1
end Go.Seg
namespace Go.Rep
open Go.aj (Bs dK)
open Go.Seg (aZ)
open Go.Tab (put)
abbrev Row:=Int×dK
def iJ (r:Row):Bs:=r.2.e.key
def fF (r:Row):Int:=r.2.e.tag
def mW (r:Row):aZ:=⟨r.1,r.2.at_,r.2.size⟩
structure dU where
 tag:Int
 place:aZ
 first:Int
def newest:List Row->Bs->Option Row
 |[],_=>none
 |r::l,k=>match newest l k with
  |some x=>some x
  |none=>if fF r≠2/\iJ r=k then some r else none
def oU:List Row->Bs->Option Row
 |[],_=>none
 |r::l,k=>if fF r=0/\iJ r=k then some r else oU l k
def first (l:List Row) (k:Bs):Int:=match oU l k with
 |some r=>r.1
 |none=> -1
def ledger (l:List Row) (k:Bs):Option dU:=(newest l k).map λr=>⟨fF r,mW r,first l k⟩
def BI (m:Bs->Option dU) (r:Row):Int:=match m (iJ r) with
 |some a=>a.first
 |none=> -1
def pK (m:Bs->Option dU) (r:Row):Int:=if fF r=0/\BI m r<0 then r.1 else BI m r
def EL (m:Bs->Option dU) (r:Row):Bs->Option dU:=
 if fF r=2 then m else put m (iJ r) ⟨fF r,mW r,pK m r⟩
theorem Rz (l:List Row) (r:Row) (k:Bs):newest (l++[r]) k=if fF r≠2/\iJ r=k then some r else newest l k:=by
 induction l with
 |nil=>simp only [aeV,newest]
 |cons x l ih=>
  simp only [aiQ,newest,ih];split
  ·rename_i h;split at h
   ·rename_i h2;rw [adU h2];cases h;rfl
   ·rename_i h2;rw [abL h2,h]
  ·rename_i h;split at h
   ·cases h
   ·rename_i h2;rw [abL h2,h]
theorem PU (l:List Row) (r:Row) (k:Bs):oU (l++[r]) k=match oU l k with
  |some x=>some x
  |none=>if fF r=0/\iJ r=k then some r else none:=by
 induction l with
 |nil=>simp only [aeV,oU]
 |cons x l ih=>
  simp only [aiQ,oU,ih];split
  ·rename_i h;simp only
  ·rfl
theorem ajP {l:List Row}{k:Bs} (h:newest l k=none):oU l k=none:=by
 induction l with
 |nil=>rfl
 |cons x l ih=>
  simp only [newest]at h;split at h
  ·cases h
  ·rename_i h1;split at h
   ·cases h
   ·rename_i h2;simp only [oU];rw [abL λh3=>h2 ⟨by rw [h3.1];decide,h3.2⟩];exact ih h1
theorem Yd {l:List Row}{k:Bs}{r:Row} (h:oU l k=some r):r∈l/\fF r=0/\iJ r=k:=by
 induction l with
 |nil=>cases h
 |cons x l ih=>
  simp only [oU]at h;split at h
  ·cases h;exact ⟨.head _,by assumption⟩
  ·exact ⟨.tail _ (ih h).1,(ih h).2⟩
theorem ZU (l:List Row) (r:Row) (h0:∀ x∈l,0<=x.1):ledger (l++[r])=EL (ledger l) r:=by
 funext k
 unfold EL;by_cases h2:fF r=2
 ·rw [adU h2];unfold ledger first
  rw [Rz,abL (λh=>h.1 h2),PU];cases oU l k with
  |some x=>rfl
  |none=>simp only;rw [abL (λh=>by rw [h2]at h;exact absurd h.1 aG)]
 ·rw [abL h2];unfold put;by_cases hk:k=iJ r
  ·subst hk;rw [adU rfl];have e1:∀ k,ledger l k=(newest l k).map λr=>⟨fF r,mW r,first l k⟩:=λ_=>rfl;have e2:ledger (l++[r]) (iJ r)=some ⟨fF r,mW r,first (l++[r]) (iJ r)⟩:=by
    unfold ledger;rw [Rz,adU ⟨h2,rfl⟩,aiM]
   rw [e2]
   congr 2
   unfold pK BI;rw [e1];unfold first
   rw [PU];cases hn:newest l (iJ r) with
   |none=>
    rw [ajP hn];simp only [ao1];by_cases ht:fF r=0
    ·rw [adU ⟨ht,trivial⟩,adU ⟨ht,by decide⟩]
    ·rw [abL (λh=>ht h.1),abL (λh=>ht h.1)]
   |some x=>
    simp only [aiM];cases hf:oU l (iJ r) with
    |some y=>
     simp only;rw [abL (λh=>by have:=h0 y (Yd hf).1;omega)]
    |none=>
     simp only;by_cases ht:fF r=0
     ·rw [adU ⟨ht,trivial⟩,adU ⟨ht,by decide⟩]
     ·rw [abL (λh=>ht h.1),abL (λh=>ht h.1)]
  ·rw [abL hk];unfold ledger first
   rw [Rz,abL (λh=>hk h.2.symm),PU];cases oU l k with
   |some x=>rfl
   |none=>simp only;rw [abL (λh=>hk h.2.symm)]
def counts (a:dU):Bool:=decide (a.tag=0) || (decide (0<=a.first) && decide (a.first<a.place.seg))
def oD (l:List Row) (i:Nat):Bool:=match l[i]? with
 |none=>false
 |some r=>decide (fF r<2) && (l.drop (i+1)).all λx => !(decide (fF x<2) && decide (iJ x=iJ r))
def cnt (l:List Row) (i:Nat):Bool:=match l[i]? with
 |none=>false
 |some r => !decide (fF r=2) && oD l i && (decide (fF r=0) || (l.take i).any λx=>decide (fF x=0) && decide (iJ x=iJ r) && decide (x.1<r.1))
structure Rows (l:List Row):Prop where
 tag:∀ r∈l,fF r=0\/fF r=1\/fF r=2
 seg:∀ r∈l,0<=r.1
 rise:l.Pairwise λa b=>a.1<=b.1
theorem aaD {l:List Row}{k:Bs} (ht:∀ r∈l,fF r=0\/fF r=1\/fF r=2):newest l k=none↔(l.all λx => !(decide (fF x<2) && decide (iJ x=k)))=true:=by
 induction l with
 |nil=>exact ⟨λ_=>rfl,λ_=>rfl⟩
 |cons y l ih=>
  rw [List.all_cons,aeW,<-ih (λr h=>ht r (.tail _ h))];have hy:=ht y (.head _);simp only [newest];cases hn:newest l k with
  |some x=>simp
  |none=>
   simp only [and_true];by_cases hc:fF y≠2/\iJ y=k
   ·rw [adU hc];have:fF y<2:=oQ;simp [this,hc.2]
   ·rw [abL hc];simp only [true_iff,Bool.not_eq_true',Bool.and_eq_false_iff,aeJ];by_cases h2:fF y<2
    ·exact .inr λh=>hc ⟨by omega,h⟩
    ·exact .inl h2
theorem aaF:∀ {l:List Row}{i:Nat}{r:Row},(∀ r∈l,fF r=0\/fF r=1\/fF r=2)->l[i]?=some r->oD l i=true->newest l (iJ r)=some r
 |[],_,_,_,hi,_=>by simp at hi
 |x::l,0,r,ht,hi,hn=>by
  obtain rfl:x=r:=by simpa using hi
  unfold oD at hn;rw [hi]at hn;simp only [aeW,ad5]at hn;have h2:newest l (iJ x)=none:=(aaD λr h=>ht r (.tail _ h)).2 hn.2;have:=hn.1;simp only [newest,h2];rw [adU ⟨by omega,trivial⟩]
 |x::l,i+1,r,ht,hi,hn=>by
  have hi':l[i]?=some r:=by simpa using hi
  have hn':oD l i=true:=by
   unfold oD at hn ⊢;rw [hi]at hn;rw [hi'];exact hn
  simp only [newest,aaF (λr h=>ht r (.tail _ h)) hi' hn']
theorem aaH:∀ {l:List Row}{k:Bs}{r:Row},(∀ r∈l,fF r=0\/fF r=1\/fF r=2)->newest l k=some r->∃ i,l[i]?=some r/\oD l i=true/\iJ r=k/\fF r≠2
 |[],_,_,_,h=>by cases h
 |x::l,k,r,ht,h=>by
  simp only [newest]at h;cases hn:newest l k with
  |some y=>
   rw [hn]at h;obtain rfl:y=r:=by simpa using h
   obtain ⟨i,a,b,c,d⟩:=aaH (λr h=>ht r (.tail _ h)) hn;refine ⟨i+1,by simpa using a,?_,c,d⟩;unfold oD at b ⊢;rw [a]at b;rw [show (x::l)[i+1]?=some y by simpa using a];exact b
  |none=>
   rw [hn]at h;simp only at h;split at h
   ·rename_i hc;obtain rfl:x=r:=by simpa using h
    refine ⟨0,rfl,?_,hc.2,hc.1⟩;have hx:=ht x (.head _);unfold oD;simp only [List.getElem?_cons_zero,aeE,List.drop_one,List.tail_cons,aeW,ad5];refine ⟨by omega,?_⟩;rw [<-aaD λr h=>ht r (.tail _ h),hc.2];exact hn
   ·cases h
theorem Yc:∀ {l:List Row}{k:Bs}{r x:Row},l.Pairwise (λa b=>a.1<=b.1)->oU l k=some r->x∈l->fF x=0->iJ x=k->r.1<=x.1
 |[],_,_,_,_,h,_,_,_=>by cases h
 |y::l,k,r,x,hp,h,hx,h0,hk=>by
  obtain ⟨p1,p2⟩:=aeZ.1 hp;simp only [oU]at h;split at h
  ·obtain rfl:y=r:=by simpa using h
   rcases ad9.1 hx with rfl|hx
   ·exact ape _
   ·exact p1 x hx
  ·rename_i hc;rcases ad9.1 hx with rfl|hx
   ·exact absurd ⟨h0,hk⟩ hc
   ·exact Yc p2 h hx h0 hk
theorem ag8 {l:List Row}{k:Bs} (h:oU l k=none):∀ x∈l,¬ (fF x=0/\iJ x=k):=by
 induction l with
 |nil=>intro x hx;cases hx
 |cons y l ih=>
  simp only [oU]at h;split at h
  ·cases h
  ·rename_i hc;intro x hx;rcases ad9.1 hx with rfl|hx
   ·exact hc
   ·exact ih h x hx
theorem Xg {l:List Row}{i:Nat}{r:Row} (hl:Rows l) (hi:l[i]?=some r) (hn:oD l i=true):∃ a,ledger l (iJ r)=some a/\a.tag=fF r/\a.place=mW r/\counts a=cnt l i:=by
 have h1:=aaF hl.tag hi hn;refine ⟨⟨fF r,mW r,first l (iJ r)⟩,by unfold ledger;rw [h1];rfl,rfl,rfl,?_⟩;have hmem:=acr hi;have h2:fF r≠2:=by
  unfold oD at hn;rw [hi]at hn;simp only [aeW,ad5]at hn;have:=hn.1;omega
 unfold cnt;rw [hi];simp only [hn,h2,decide_false,Bool.not_false,Bool.true_and];unfold counts;simp only;by_cases h0:fF r=0
 ·simp [h0]
 ·simp only [h0,decide_false,Bool.false_or];rw [aoT];simp only [aeW,ad5,List.any_eq_true];unfold first mW
  simp only;cases hf:oU l (iJ r) with
  |none=>
   simp only;constructor
   ·intro h;omega
   ·rintro ⟨x,hx,⟨h3,h4⟩,_⟩;exact absurd ⟨h3,h4⟩ (ag8 hf x (ae2 hx))
  |some y=>
   obtain ⟨m1,m2,m3⟩:=Yd hf;simp only;constructor
   ·rintro ⟨_,h5⟩;obtain ⟨j,hj,he⟩:=aoI m1;have hij:j<i:=by
     rcases Nat.lt_trichotomy j i with q|q|q
     ·exact q
     ·subst q;rw [aaJ hj,he]at hi;cases hi;exact absurd m2 h0
     ·obtain ⟨hi',he'⟩:=acZ.1 hi;have:=ao8.1 hl.rise i j hi' hj q;rw [he,he']at this;omega
    refine ⟨y,?_,⟨m2,m3⟩,h5⟩;rw [List.mem_take_iff_getElem];exact ⟨j,by omega,he⟩
   ·rintro ⟨x,hx,⟨h3,h4⟩,h5⟩;have:=Yc hl.rise hf (ae2 hx) h3 h4;exact ⟨hl.seg y m1,by omega⟩
theorem agi {l:List Row}{i:Nat} (h:cnt l i=true):oD l i=true:=by
 unfold cnt at h;split at h
 ·cases h
 ·simp only [aeW]at h;exact h.1.2
end Go.Rep
namespace Go.Tab
open Go.aj (Bs)
theorem FZ (a b:Bs):a<b\/a=b\/b<a:=by
 by_cases h1:a<b
 ·exact .inl h1
 ·rcases List.le_iff_lt_or_eq.1 (List.not_lt.1 h1) with h2|h2
  ·exact .inr (.inr h2)
  ·exact .inr (.inl h2.symm)
structure Lists {V:Type} (m:Bs->Option V) (l:List (Bs×V)):Prop where
 rise:l.Pairwise λa b=>a.1<b.1
 mem:∀ k v,(k,v)∈l↔m k=some v
theorem abM {V:Type}:∀ {l l':List (Bs×V)},l.Pairwise (λa b=>a.1<b.1)->l'.Pairwise (λa b=>a.1<b.1)->(∀ p,p∈l↔p∈l')->l=l'
 |[],[],_,_,_=>rfl
 |[],b::l',_,_,h=>by have:=(h b).2 (.head _);cases this
 |a::l,[],_,_,h=>by have:=(h a).1 (.head _);cases this
 |a::l,b::l',h1,h2,h=>by
  obtain ⟨a1,a2⟩:=aeZ.1 h1;obtain ⟨b1,b2⟩:=aeZ.1 h2;have hab:a=b:=by
   rcases ad9.1 ((h a).1 (.head _)) with e|h3
   ·exact e
   ·rcases ad9.1 ((h b).2 (.head _)) with e|h4
    ·exact e.symm
    ·exact absurd (apL (b1 a h3) (a1 b h4)) (aps _)
  subst hab
  congr 1
  refine abM a2 b2 λp=>?_;have:=h p;rw [ad9,ad9]at this;constructor
  ·intro hp;rcases this.1 (.inr hp) with e|h3
   ·subst e;exact absurd (a1 p hp) (aps _)
   ·exact h3
  ·intro hp;rcases this.2 (.inr hp) with e|h3
   ·subst e;exact absurd (b1 p hp) (aps _)
   ·exact h3
theorem Lists.unique {V:Type}{m:Bs->Option V}{l l':List (Bs×V)} (h:Lists m l) (h':Lists m l'):l=l':=
 abM h.rise h'.rise λp=>by rw [h.mem p.1 p.2,h'.mem p.1 p.2]
theorem Lists.keys {V:Type}{m:Bs->Option V}{l:List (Bs×V)} (h:Lists m l):(l.map (·.1)).Nodup:=by
 rw [List.nodup_iff_pairwise_ne,ahB];exact h.rise.imp λ{a b} hab e=>by rw [e]at hab;exact aps _ hab
def ins {V:Type}:List (Bs×V)->Bs×V->List (Bs×V)
 |[],x=>[x]
 |y::l,x=>if x.1<y.1 then x::y::l else y::ins l x
theorem Kw {V:Type}:∀ {l:List (Bs×V)}{x p:Bs×V},p∈ins l x↔p=x\/p∈l
 |[],x,p=>by simp [ins]
 |y::l,x,p=>by
  unfold ins;split
  ·rw [ad9]
  ·rw [ad9,Kw,ad9];constructor
   ·rintro (h|h|h)
    ·exact .inr (.inl h)
    ·exact .inl h
    ·exact .inr (.inr h)
   ·rintro (h|h|h)
    ·exact .inr (.inl h)
    ·exact .inl h
    ·exact .inr (.inr h)
theorem ZE {V:Type}:∀ {l:List (Bs×V)}{x:Bs×V},l.Pairwise (λa b=>a.1<b.1)->(∀ y∈l,y.1≠x.1)->(ins l x).Pairwise λa b=>a.1<b.1
 |[],x,_,_=>List.pairwise_singleton _ _
 |y::l,x,h,hn=>by
  obtain ⟨h1,h2⟩:=aeZ.1 h;unfold ins;split
  ·rename_i hlt;refine aeZ.2 ⟨λz hz=>?_,h⟩;rcases ad9.1 hz with rfl|hz
   ·exact hlt
   ·exact apL hlt (h1 z hz)
  ·rename_i hlt;refine aeZ.2 ⟨λz hz=>?_,ZE h2 λz hz=>hn z (.tail _ hz)⟩;rcases Kw.1 hz with rfl|hz
   ·rcases FZ y.1 z.1 with q|q|q
    ·exact q
    ·exact absurd q (hn y (.head _))
    ·exact absurd q hlt
   ·exact h1 z hz
end Go.Tab
namespace Go.Rep
open Go.aj (Bs dK)
open Go.Seg (aZ)
open Go.Tab
def idx (l:List Row):Nat->List (Bs×aZ)
 |0=>[]
 |i+1=>match l[i]? with
  |none=>idx l i
  |some r=>if cnt l i=true/\fF r=0 then ins (idx l i) (iJ r,mW r) else idx l i
def live (l:List Row) (s:Int):Nat->Int
 |0=>0
 |i+1=>match l[i]? with
  |none=>live l s i
  |some r=>if cnt l i=true/\r.1=s then live l s i+r.2.size else live l s i
def gu (s:Int):List (Bs×dU)->Int
 |[]=>0
 |p::l=>(if counts p.2=true/\p.2.place.seg=s then p.2.place.size else 0)+gu s l
def puts (kv:List (Bs×dU)):List (Bs×aZ):=(kv.filter λp=>decide (p.2.tag=0)).map λp=>(p.1,p.2.place)
theorem ajN {l:List Row}{i j:Nat}{r x:Row} (hi:l[i]?=some r) (hj:l[j]?=some x) (h1:oD l i=true) (h2:oD l j=true) (hk:iJ r=iJ x):i=j:=by
 have aux:∀ {i j:Nat} {r x:Row},l[i]?=some r->l[j]?=some x->oD l i=true->oD l j=true->iJ r=iJ x->¬ i<j:=by
  intro i j r x hi hj h1 h2 hk hlt;unfold oD at h1 h2;rw [hi]at h1;rw [hj]at h2;simp only [aeW,ad5,agt]at h1 h2;have hm:x∈l.drop (i+1):=by
   refine acr (i:=j-(i+1)) ?_;rw [aoz,show i+1+(j-(i+1))=j by omega];exact hj
  have:=h1.2 x hm;simp [h2.1,hk]at this
 rcases Nat.lt_trichotomy i j with q|q|q
 ·exact absurd q (aux hi hj h1 h2 hk)
 ·exact q
 ·exact absurd q (aux hj hi h2 h1 hk.symm)
def wP (l:List Row):Nat->List Bs
 |0=>[]
 |i+1=>match l[i]? with
  |none=>wP l i
  |some r=>if oD l i=true then iJ r::wP l i else wP l i
theorem Ru {l:List Row}:∀ {n:Nat}{k:Bs},k∈wP l n↔∃ i r,i<n/\l[i]?=some r/\oD l i=true/\iJ r=k
 |0,k=>by simp [wP]
 |n+1,k=>by
  have ih:=@Ru l n k;unfold wP;constructor
  ·intro h;split at h
   ·obtain ⟨i,r,a,b⟩:=ih.1 h;exact ⟨i,r,by omega,b⟩
   ·rename_i r hr;split at h
    ·rename_i hc;rcases ad9.1 h with e|h
     ·exact ⟨n,r,by omega,hr,hc,e.symm⟩
     ·obtain ⟨i,r,a,b⟩:=ih.1 h;exact ⟨i,r,by omega,b⟩
    ·obtain ⟨i,r,a,b⟩:=ih.1 h;exact ⟨i,r,by omega,b⟩
  ·rintro ⟨i,r,hi,hr,hc,rfl⟩;by_cases hin:i<n
   ·have:=ih.2 ⟨i,r,hin,hr,hc,rfl⟩;split
    ·exact this
    ·split
     ·exact .tail _ this
     ·exact this
   ·obtain rfl:i=n:=by omega
    rw [hr];simp only;rw [adU hc];exact .head _
theorem KO {l:List Row}:∀ n,(wP l n).Nodup
 |0=>List.nodup_nil
 |n+1=>by
  unfold wP;split
  ·exact KO n
  ·rename_i r hr;split
   ·rename_i hc;refine aoC.2 ⟨λh=>?_,KO n⟩;obtain ⟨i,x,a,b,c,d⟩:=Ru.1 h;have:=ajN b hr c hc d;omega
   ·exact KO n
def adds (l:List Row) (s:Int) (k:Bs):Int:=match ledger l k with
 |some a=>if counts a=true/\a.place.seg=s then a.place.size else 0
 |none=>0
theorem am2 {f:Bs->Int}{l l':List Bs} (h:l.Perm l'):(l.map f).sum=(l'.map f).sum:=by
 induction h with
 |nil=>rfl
 |cons x _ ih=>simp only [aes,apf,ih]
 |swap x y l=>simp only [aes,apf];omega
 |trans _ _ h1 h2=>rw [h1,h2]
theorem Z9 {l:List Row} (hl:Rows l) (s:Int):∀ n,live l s n=((wP l n).map (adds l s)).sum
 |0=>rfl
 |n+1=>by
  have ih:=Z9 hl s n;unfold live wP;split
  ·rename_i hr;rw [ih]
  ·rename_i r hr;by_cases hn:oD l n=true
   ·obtain ⟨a,h1,h2,h3,h4⟩:=Xg hl hr hn;rw [adU hn,aes,apf,ih];unfold adds;rw [h1];simp only;rw [h4,h3,show (mW r).seg=r.1 from rfl,show (mW r).size=(r.2.size:Int) from rfl];split
    ·exact Int.add_comm _ _
    ·exact (Int.zero_add _).symm
   ·rw [abL hn,abL (λh=>hn (agi h.1)),ih]
theorem Z7 {l:List Row} (s:Int):∀ (kv:List (Bs×dU)),(∀ p∈kv,ledger l p.1=some p.2)->gu s kv=((kv.map (·.1)).map (adds l s)).sum
 |[],_=>rfl
 |p::kv,h=>by
  rw [aes,aes,apf,<-Z7 s kv λq hq=>h q (.tail _ hq)];unfold adds;rw [h p (.head _)]
  rfl
theorem ajj {l:List Row} (hl:Rows l){kv:List (Bs×dU)} (hk:Lists (ledger l) kv) (s:Int):live l s l.length=gu s kv:=by
 rw [Z9 hl,Z7 s kv λp hp=>(hk.mem p.1 p.2).1 hp];refine am2 ((List.perm_ext_iff_of_nodup (KO _) hk.keys).2 λk=>?_);rw [Ru,adu];constructor
 ·rintro ⟨i,r,_,hr,hn,rfl⟩;obtain ⟨a,h1,_⟩:=Xg hl hr hn;exact ⟨(iJ r,a),(hk.mem _ _).2 h1,rfl⟩
 ·rintro ⟨⟨k',a⟩,hp,rfl⟩;have h3:=(hk.mem _ _).1 hp;unfold ledger at h3;cases hn:newest l k' with
  |none=>rw [hn]at h3;cases h3
  |some r=>
   obtain ⟨i,a,b,c,_⟩:=aaH hl.tag hn;exact ⟨i,r,(acZ.1 a).1,a,b,c⟩
end Go.Rep
namespace Go.Proofs.Y
open Go.ak
section
variable {t:TypeId}{pos:String}{z:Operand}{o:Nat}
variable {vx vy:Value}{ad:Addr}{fl:Nat}{bo:BinOp}{uo:UnOp}{tz:TypeId}{G:World->Prop}
theorem iI {g:Option (Nat×Bool)} (hw:Region.wanted ⟨dst,.move x,t,pos,after,g⟩ (yielded ops a.tmps)=true) (hx:a.eval x=v):Yields P ops ⟨dst,.move x,t,pos,after,g⟩ v a:=
 .inl ⟨hw,λw=>by simp only [execOp,hx];rfl⟩
theorem adL {g:Option (Nat×Bool)} (hw:Region.wanted ⟨dst,.nilCheck x,t,pos,after,g⟩ (yielded ops a.tmps)=true) (hx:a.eval x=.pointer (some ad)):Yields P ops ⟨dst,.nilCheck x,t,pos,after,g⟩ (.pointer (some ad)) a:=
 .inl ⟨hw,λw=>by simp only [execOp,hx];rfl⟩
theorem ng {g:Option (Nat×Bool)} (hw:Region.wanted ⟨dst,.fieldAddr ty x fl,t,pos,after,g⟩ (yielded ops a.tmps)=true) (hx:a.eval x=vx) (hr:∀ w,(Instr.fieldAt ty vx fl).run P w=.ok v w):Yields P ops ⟨dst,.fieldAddr ty x fl,t,pos,after,g⟩ v a:=
 .inl ⟨hw,λw=>by simp only [execOp,hx,aed,hr,adW,aep]⟩
theorem qA {g:Option (Nat×Bool)} (hw:Region.wanted ⟨dst,.indexAddr ty x y,t,pos,after,g⟩ (yielded ops a.tmps)=true) (hx:a.eval x=vx) (hy:a.eval y=vy) (hr:∀ w,(Instr.indexAt ty vx vy).run P w=.ok v w):Yields P ops ⟨dst,.indexAddr ty x y,t,pos,after,g⟩ v a:=
 .inl ⟨hw,λw=>by simp only [execOp,hx,hy,aed,hr,adW,aep]⟩
theorem qy {g:Option (Nat×Bool)} (hw:Region.wanted ⟨dst,.binOp bo ty x y tz,t,pos,after,g⟩ (yielded ops a.tmps)=true) (hx:a.eval x=vx) (hy:a.eval y=vy) (hr:∀ w,((do eqGuard bo ty x y vx vy;binOp bo ty vx vy):Sem Value).run P w=.ok v w):Yields P ops ⟨dst,.binOp bo ty x y tz,t,pos,after,g⟩ v a:=
 .inl ⟨hw,λw=>by simp only [execOp,hx,hy,aed (x:=(do eqGuard bo ty x y vx vy;binOp bo ty vx vy)),hr,adW,aep]⟩
theorem aoj {g:Option (Nat×Bool)} (hw:Region.wanted ⟨dst,.unOp uo ty x,t,pos,after,g⟩ (yielded ops a.tmps)=true) (hx:a.eval x=vx) (hr:∀ w,(Op.unary uo vx).run P w=.ok v w):Yields P ops ⟨dst,.unOp uo ty x,t,pos,after,g⟩ v a:=
 .inl ⟨hw,λw=>by simp only [execOp,hx,aed,hr,adW,aep]⟩
theorem aoi {g:Option (Nat×Bool)} (hw:Region.wanted ⟨dst,.call { callee:= .builtin .len,args:=#[x],argTypes:=#[ty] },t,pos,after,g⟩ (yielded ops a.tmps)=true) (hx:a.eval x=vx) (hr:∀ w,(Builtin.len_ #[ty] t #[vx]).run P w=.ok v w):Yields P ops ⟨dst,.call { callee:= .builtin .len,args:=#[x],argTypes:=#[ty] },t,pos,after,g⟩ v a:=
 .inl ⟨hw,λw=>by
  rw [X0,hx];simp only [aed,hr,adW,aep]⟩
theorem mX {g:Option (Nat×Bool)} (hw:Region.wanted ⟨dst,.load ty x,t,pos,after,g⟩ (yielded ops a.tmps)=true) (hx:a.eval x=.pointer (some ad)) (h1:CU P ty=true) (hG:∀ w,G w->w.cell? ad=some v):YieldsIf P ops G ⟨dst,.load ty x,t,pos,after,g⟩ v a:=
 .inl ⟨hw,λw hw=>by
  obtain ⟨b,o,el⟩:=ad;have hc:=hG w hw;simp only [execOp,hx,Instr.loadAt,Instr.sureAddr,aed,aep,adW,acg h1 hc]⟩
theorem ny {g:Option (Nat×Bool)}{c:Bool} (hw:Region.wanted ⟨dst,.pick x y z,t,pos,after,g⟩ (yielded ops a.tmps)=true) (hx:a.eval x=.bool c) (hv:(if c then a.eval y else a.eval z)=v):Yields P ops ⟨dst,.pick x y z,t,pos,after,g⟩ v a:=
 .inl ⟨hw,λw=>by
  subst hv;simp only [execOp,hx];cases c <;> rfl⟩
theorem anp {g:Option (Nat×Bool)} (ks:List Value) (hw:Region.wanted ⟨dst,.load ty x,t,pos,after,g⟩ (yielded ops a.tmps)=true) (hx:a.eval x=.pointer (some ⟨b,o,none⟩)){d:TypeDesc} (hu:P.underlying ty=some d) (hd:d.isRow=true) (hi:(P.info? ty).map (·.size)=some ks.length) (hG:∀ w,G w->w.rangeAt b o ks) :
  YieldsIf P ops G ⟨dst,.load ty x,t,pos,after,g⟩ (.agg ks.toArray) a:=
 yieldsIf_load_mid hw ty x rfl b o hx ks d hG hu hd hi
theorem F9 {g:Option (Nat×Bool)}{f:FuncId}{xs:Array Operand}{ts:Array TypeId}{K:Act->World->Prop}{E:Prop} (vs:List Value) (hw:Region.wanted ⟨dst,.call { callee:= .value (.func f),args:=xs,argTypes:=ts },t,pos,after,g⟩ (yielded ops a.tmps)=true) (hf:goB P f=true) (hv:xs.toList.map a.eval=vs)
  (h:Calls P f vs.toArray w (Upon K Q a dst)):if Region.wanted ⟨dst,.call { callee:= .value (.func f),args:=xs,argTypes:=ts },t,pos,after,g⟩ (yielded ops a.tmps)=true then
   Oper.wp P ⟨dst,.call { callee:= .value (.func f),args:=xs,argTypes:=ts },t,pos,after,g⟩ a w K Q else E:=by
 rw [adU hw];have h0:=D7 (P:=P) (ops:=ops) (a:=a) (w:=w) (Q:=Q) (dst:=dst) (t:=t) (pos:=pos) (after:=after) (K:=K) (E:=False) (xs:=xs) (ts:=ts) vs hf hv h;rw [adU (mZ _ rfl)]at h0;exact h0
theorem eu {l:Array Bool}{n:Nat}{late:List Nat}{oi:Oper} (i:Nat) (hi:ops.toList[i]?=some oi) (hc:(Region.noSelect ops && Region.free .any ops l i && (Region.ready .any ops l).contains i && yK ops l)=true)
  (hQ:∀ c a w,Q (.panic c) (a.put oi.dst undef) w->Q (.panic c) a w) (hw:Region.wanted oi (yielded ops a.tmps)=false) {a':Act} (ha:a.put oi.dst undef=a')
  (h:jT P ops Q late G n (l.setIfInBounds i true) a' w):jT P ops Q late G (n+1) l a w:=
 Tc i hi hc hQ (.inr ⟨hw,rfl⟩) ha h
end
end Go.Proofs.Y
namespace Go.ak
def ak.which (D:ak) (s:ByteArray):Int:=match bH D.now s with
 |none=> -1
 |some i=>(i:Int)
end Go.ak
namespace Go.Proofs.Y
open Go.ak
def oW (p:ByteArray×Nat):List Value:=[.string p.1,.int .i64 p.2]
def gG (l:Names):List Value:=l.flatMap oW
theorem Ia (l:Names):(gG l).length=2*l.length:=by
 unfold gG
 induction l with
 |nil=>rfl
 |cons x l ih=>rw [aen,aa7,ih,aev];show 2+2*l.length=_;omega
theorem KW (l k:Names):gG (l++k)=gG l++gG k:=by unfold gG;rw [aeB]
theorem ajW {l:Names}{i:Nat}{p:ByteArray×Nat} (h:l[i]?=some p):(gG l)[i*2]?=some (.string p.1)/\(gG l)[i*2+1]?=some (.int .i64 p.2):=by
 induction l generalizing i with
 |nil=>simp at h
 |cons a l ih=>
  cases i with
  |zero=>
   obtain rfl:a=p:=by simpa using h
   exact ⟨rfl,rfl⟩
  |succ i=>
   have e1:gG (a::l)=.string a.1 :: .int .i64 a.2::gG l:=rfl;have h':l[i]?=some p:=by simpa using h
   rw [e1,show (i+1)*2=i*2+1+1 by omega];exact ih h'
abbrev qc:=List (Value×Names)
def vJ (g:qc):aF:=stars (g.map λp=>aC 236 2 p.1 (gG p.2))
structure RF where
 f:aX
 fv:Value
 nv:Value
 wv:Value
 ws:List (gX×Value)
def rfL (x:RF):List Value:=[x.fv,x.nv,x.wv]
def iR (xs:List RF):List Value:=xs.flatMap rfL
def je (x:RF):aF:=stars [aY x.fv x.f.fast,aY x.nv x.f.now,aC 93 3 x.wv (x.ws.flatMap mO),pG x.ws]
def uY (x:gU):List Value:=[.string x.fr,.string x.to,.int .i64 x.f]
abbrev vM (d:Nat) (D:ak) (gV fv nv wv:Value):aF:=
 pt d (.cells #[.int .i64 D.room,gV,fv,nv,wv,.bool D.armed,.int .i64 D.left,.bool D.off] 168 (0,0))
def Nw (d:Nat) (D:ak) (gV fv nv wv:Value) (xs:List RF) (g:qc):List aF:=
 [vM d D gV fv nv wv,aC 176 3 gV (iR xs),stars (xs.map je),vJ g,aC 179 3 wv (D.waits.flatMap uY)]
structure sG (D:ak) (fv nv:Value) (xs:List RF) (g:qc):Prop where
 files:xs.map (·.f)=D.files
 ok:∀ x∈xs,x.ws.map (·.1)=x.f.waits
 fast:(fv,D.fast)∈g
 now:(nv,D.now)∈g
def fH (d:Nat) (D:ak):aF:=λh=>∃ gV fv nv wv xs g,sG D fv nv xs g/\stars (Nw d D gV fv nv wv xs g) h
section
variable {o:Nat}{t:TypeId}{pos:String}
theorem Nk (ks:List Value) (hx:a.eval x=.pointer (some ⟨b,o,none⟩)) (hc:∀ j v,ks[j]?=some v->w.cell? ⟨b,o+j,none⟩=some v)
  {d:TypeDesc} (hu:P.underlying ty=some d) (hd:d.isRow=true) (hi:(P.info? ty).map (·.size)=some ks.length)
  (h:wpList P ops Q rest (a.put dst (.agg ks.toArray)) w):wpList P ops Q (⟨dst,.load ty x,t,pos,after,none⟩::rest) a w:=
 wpList_load_mid rfl ty x rfl b o hx ks d hc hu hd hi h
end
theorem yJ (xs:List RF):(iR xs).length=3*xs.length:=by
 unfold iR
 induction xs with
 |nil=>rfl
 |cons x l ih=>rw [aen,aa7,ih,aev];show 3+3*l.length=_;omega
theorem S9 {xs:List RF}{i:Nat}{x:RF} (h:xs[i]?=some x):(iR xs)[i*3]?=some x.fv/\(iR xs)[i*3+1]?=some x.nv/\(iR xs)[i*3+2]?=some x.wv:=by
 induction xs generalizing i with
 |nil=>simp at h
 |cons a l ih=>
  cases i with
  |zero=>
   obtain rfl:a=x:=by simpa using h
   exact ⟨rfl,rfl,rfl⟩
  |succ i=>
   have e1:iR (a::l)=a.fv::a.nv::a.wv::iR l:=rfl;have h':l[i]?=some x:=by simpa using h
   rw [e1,show (i+1)*3=i*3+1+1+1 by omega];exact ih h'
section
variable {D:ak}{xs:List RF}{g:qc}
theorem fH.open (h:Sat w0 w (fH d D::F)):∃ gV fv nv wv xs g,sG D fv nv xs g/\Sat w0 w (vM d D gV fv nv wv::aC 176 3 gV (iR xs)::stars (xs.map je)::vJ g::aC 179 3 wv (D.waits.flatMap uY)::F):=by
 obtain ⟨ha,x,hx,p,q,dd,rfl,⟨gV,fv,nv,wv,xs,g,hin,hp⟩,hq⟩:=h;refine ⟨gV,fv,nv,wv,xs,g,hin,ha,_,hx,?_⟩;show stars (Nw d D gV fv nv wv xs g++F) _;rw [qx];exact ⟨p,q,dd,rfl,hp,hq⟩
theorem fH.shut (hin:sG D fv nv xs g) (h:Sat w0 w (vM d D gV fv nv wv::aC 176 3 gV (iR xs)::stars (xs.map je)::vJ g::aC 179 3 wv (D.waits.flatMap uY)::F)):Sat w0 w (fH d D::F):=
 Sat.join (M:=Nw d D gV fv nv wv xs g) h λ_ hx=>⟨gV,fv,nv,wv,xs,g,hin,hx⟩
theorem Iz:∀ (l:List aF) (A:aF),A∈l->∃ G,stars l=star A G
 |B::l,A,h=>by
  rcases ad9.1 h with rfl|h
  ·exact ⟨_,rfl⟩
  ·obtain ⟨G,hG⟩:=Iz l A h;refine ⟨star B G,?_⟩;show star B (stars l)=_;rw [hG,xg]
theorem xR {l:Names} (h:(v,l)∈g):Ro w0 (vJ g::R) (aW 2 v (gG l)):=λw hw=>by
 obtain ⟨G,hG⟩:=Iz _ _ (adu.2 ⟨(v,l),h,rfl⟩:aC 236 2 v (gG l)∈g.map λp=>aC 236 2 p.1 (gG p.2));unfold vJ at hw;rw [hG]at hw;exact Sat.rd (Sat.star.1 hw)
theorem O4 {l:Names} (h:Sat w0 w (aC 236 2 v (gG l)::vJ g::R)):Sat w0 w (vJ ((v,l)::g)::R):=Sat.star.2 h
theorem X6 {x:RF} (h:x∈xs):Ro w0 (stars (xs.map je)::R) (aW 1 x.nv (aB x.f.now))/\Ro w0 (stars (xs.map je)::R) (aW 1 x.fv (aB x.f.fast)):=by
 obtain ⟨G,hG⟩:=Iz _ _ (adu.2 ⟨x,h,rfl⟩:je x∈xs.map je);refine ⟨λw hw=>?_,λw hw=>?_⟩
 ·rw [hG]at hw;have h2:=Sat.star.1 hw;unfold je at h2;have h3:=Sat.star.1 h2;exact Sat.rd (Sat.star.1 (h3.pick aT))
 ·rw [hG]at hw;have h2:=Sat.star.1 hw;unfold je at h2;exact Sat.rd (Sat.star.1 h2)
theorem sG.file (h:sG D fv nv xs g){i:Nat} (hi:i<D.files.length):∃ x,xs[i]?=some x/\x.f=D.file i:=by
 have hl:xs.length=D.files.length:=by rw [<-h.files,abl]
 refine ⟨xs[i]'oQ,aaJ _,?_⟩;unfold ak.file;rw [adV,<-h.files,ad1,aaJ oQ]
 rfl
theorem zK {l:Names} (h:aW 2 v (gG l) w):∃ a c,v=.slice a l.length c:=by
 obtain ⟨a,n,c,rfl,hl,hx⟩:=h;rw [Ia]at hl;obtain rfl:n=l.length:=by omega
 exact ⟨a,c,rfl⟩
theorem RN {l:Names}{i:Nat}{p:ByteArray×Nat} (h:aW 2 v (gG l) w) (hi:l[i]?=some p) :
  ∃ bk off c,v=.slice (some ⟨bk,off,none⟩) l.length c/\w.cell? ⟨bk,off+i*2,none⟩=some (.string p.1)/\w.cell? ⟨bk,off+i*2+1,none⟩=some (.int .i64 p.2):=by
 obtain ⟨a,c,rfl⟩:=zK h;obtain ⟨h0,h1⟩:=ajW hi;obtain ⟨bk,off,rfl,hc⟩:=oJ h h0;exact ⟨bk,off,c,rfl,hc _ _ h0,by rw [apq];exact hc _ _ h1⟩
theorem Tf (h:Sat w0 w (vM d D gV fv nv wv::F)):Calls prog 86 #[ptr d] w (aN λv w'=>v=nv/\w=w'):=by
 have e3:w.cell? ⟨d,3,none⟩=some nv:=h.cellAt 3 _ rfl;go_enter func86,ntmps86;go_wp2;go_ret;exact ⟨_,rfl,rfl,rfl⟩
theorem abE (s:ByteArray) (hl:D.now.length<=1048576) (h:Sat w0 w (fH d D::F)):Calls prog 85 #[ptr d,.string s] w (aN λv w'=>v=.int .i64 (D.which s)/\w=w'):=by
 obtain ⟨gV,fv,nv,wv,xs,g,hin,hR⟩:=fH.open h;have hrd:=(xR (w0:=w0) hin.now) w (hR.pick iw);have hn:=Tf hR;have Hw:=uQ (show D.which s=match bH D.now s with|none=> -1|some i=>(i:Int) from rfl);clear hin hR;generalize D.now=l at *
 obtain ⟨la,lc,rfl⟩:=zK hrd;go_enter func85,ntmps85;go_wp2_with fail;refine hn.mono ?_;rintro ee w1 ⟨v,rfl,rfl,rfl⟩;clear hn;go_wp2_with fail
 go_loopg [6] l.length (λg iq wr=>∃ i:Nat,g=l.length-i/\i<=l.length/\iq=.int .i64 i/\bH l s=bH (l.drop i) s/\wr=w)
 case atStart=>exact ⟨0,rfl,ad4 _,rfl,rfl,rfl⟩
 case round=>
  obtain ⟨i,rfl,hi,rfl,hg,rfl⟩:=hrel;by_cases hlt:i<l.length
  ·have c1:(i:Int)<(l.length:Int):=by omega
   have hwi:=qm (i:=i);obtain ⟨p,hp⟩:∃ p,l[i]?=some p:=⟨_,aaJ hlt⟩;obtain ⟨bk,off,c,hee,e0,e1⟩:=RN hrd hp;cases hee;have hdr:l.drop i=p::l.drop (i+1):=by
    obtain ⟨h1,h2⟩:=acZ.1 hp;rw [<-h2];exact agf h1
   have aS:=uQ hlt;rw [hdr]at hg;unfold bH at hg;rw [apU]at hg;have Hg:=uQ hg;clear hlt hp hdr hg;obtain ⟨ps,pi⟩:=p;dsimp only at Hg e0 e1;by_cases hs:ps=s
   ·subst hs;have hb:(ps.toList==ps.toList)=true:=beq_self_eq_true _;have hgb:(ps==ps)=true:=by rw [mM];exact aem rfl
    have hfin:=Hg.o;rw [hgb]at hfin;have bF:=uQ (show bH l ps=some pi from hfin);clear hfin Hg hgb;go_wp2;go_ret;exact ⟨_,rfl,by rw [Hw.o,bF.o];rfl,rfl⟩
   ·have hb:(ps.toList==s.toList)=false:=by
     rw [ad3];intro e;apply hs;rw [akk,akk]at e;obtain ⟨⟨x⟩⟩:=ps;obtain ⟨⟨y⟩⟩:=s;simp at e;subst e;rfl
    have hgb:(ps==s)=false:=by rw [mM];exact aea hs
    have hfin:=Hg.o;rw [hgb]at hfin;have bF:=uQ (show bH l s=bH (l.drop (i+1)) s from hfin);clear hfin Hg hgb hs;go_wp2
    go_roundg (l.length-(i+1))
    case measure=>have:=aS.o;omega
    case rel=>exact ⟨i+1,rfl,ad8 aS.o,by first|rfl|go_num,bF.o,rfl⟩
  ·obtain rfl:i=l.length:=by omega
   have c1:¬ (l.length:Int)<(l.length:Int):=oQ;rw [ao4]at hg;have Hg:=uQ hg;clear hlt hg;go_wp2;go_ret;exact ⟨_,rfl,by rw [Hw.o,Hg.o];rfl,rfl⟩
end
section
variable {D:ak}{xs:List RF}{g:qc}
theorem ba_eq {a b:ByteArray} (h:a≠b):(a.toList==b.toList)=false:=by
 rw [ad3];intro e;apply h;rw [akk,akk]at e;obtain ⟨⟨x⟩⟩:=a;obtain ⟨⟨y⟩⟩:=b;simp at e;subst e;rfl
theorem RI {l:Names}{i:Nat}{p:ByteArray×Nat} (h:aW 2 v (gG l) w) (hi:l[i]?=some p) :
  ∃ bk off c,v=.slice (some ⟨bk,off,none⟩) l.length c/\∀ j y,(oW p)[j]?=some y->w.cell? ⟨bk,off+i*2+j,none⟩=some y:=by
 obtain ⟨bk,off,c,e,h0,h1⟩:=RN h hi;refine ⟨bk,off,c,e,λj y hj=>?_⟩;rcases j with _|_|j
 ·cases hj;exact h0
 ·cases hj;exact h1
 ·simp [oW]at hj
theorem Ku:(prog.info? 236).map (·.size)=some 2:=by kernel_rfl
theorem ajI (l:Names) (p:ByteArray×Nat) (s:ByteArray):dS (l++[p]) s=dS l s++(if (p.1 != s)=true then [p] else []):=by
 unfold dS;rw [anP]
 congr 1
 simp only [ao5,apj]
theorem TR (l:Names) (s:ByteArray) (hl:l.length<=1048576) (hr:Ro w0 F (aW 2 lv (gG l))) (h:Sat w0 w F) :
  Calls prog 181 #[lv,.string s] w (aN λv w'=>∃ ov,v=ov/\Sat w0 w' (aC 236 2 ov (gG (dS l s))::F)):=by
 obtain ⟨la,lc,rfl⟩:=zK (hr w h);have Hr:=uQ hr;have Hl:=uQ hl;clear hr hl;go_enter func181,ntmps181;go_wp2_with fail
 go_loopg [5,6] l.length (λg ov iq wr=>∃ i:Nat,g=l.length-i/\i<=l.length/\iq=.int .i64 i/\Sat w0 wr (aC 236 2 ov (gG (dS (l.take i) s))::F))
 case atStart=>exact ⟨0,rfl,ad4 _,rfl,Sat.dO.2 h⟩
 case round=>
  obtain ⟨i,rfl,hi,rfl,hS⟩:=hrel;clear h;by_cases hlt:i<l.length
  ·have aS:=uQ hlt;have hl:=Hl.o;have c1:(i:Int)<(l.length:Int):=oQ;have hwi:=qm (i:=i);obtain ⟨p,hp⟩:∃ p,l[i]?=some p:=⟨_,aaJ hlt⟩;obtain ⟨bk,off,c,hee,hcells⟩:=RI (Hr.o _ hS.drop) hp;cases hee;have e0:wr.cell? ⟨bk,off+i*2,none⟩=some (.string p.1):=hcells 0 _ rfl;have aee:=uQ hcells
   have sJ:=uQ (show dS (l.take (i+1)) s=dS (l.take i) s++(if (p.1 != s)=true then [p] else []) by
    rw [aeN,hp];exact ajI _ _ _)
   have hlen:(gG (dS (l.take i) s)).length<=2147483648:=by
    rw [Ia];have h1:=wO (l.take i) s;rw [adt]at h1;omega
   clear hlt hp hcells hl;obtain ⟨ps,pi⟩:=p;dsimp only at e0 sJ;by_cases hs:ps=s
   ·subst hs;have hb:(ps.toList==ps.toList)=true:=beq_self_eq_true _;have hbn:(ps.toList != ps.toList)=false:=by rw [bne,hb];rfl
    have hn2:=sJ.o;rw [abL (by simp [bne,mM]),aei]at hn2;have DI:=uQ hn2;clear hn2 sJ;go_wp2_with fail
    go_roundg (l.length-(i+1))
    case measure=>have:=aS.o;omega
    case rel=>exact ⟨i+1,rfl,ad8 aS.o,by first|rfl|go_num,by rw [DI.o];exact hS⟩
   ·have hb:=ba_eq hs;have hbn:(ps.toList != s.toList)=true:=by rw [bne,hb];rfl
    have hn2:=sJ.o;rw [adU (by simp [bne,mM,hs])]at hn2;have DI:=uQ hn2;clear hn2 sJ hs
    go_wp2_with (first
     |((with_reducible refine bC ⟨?_⟩);refine Nk (b:=bk) (o:=off+i*2) (oW (ps,pi)) ah aee.o underlying236 rfl Ku ?_)
     |((with_reducible refine jh ⟨?_⟩);refine jg (e:=236) (sz:=2) (dF:=24) au hS ah (cs:=(oW (ps,pi)).toArray) rfl rfl bG ?_;intro bN wN hN)
     |(with_reducible apply fZ))
    refine ⟨jF 236 2 24 au hN ah ah bK bK ah (ab1 1) ah hlen zD0 aG rfl ?_⟩;intro bA nA cA wA hA;go_wp2_with fail;have e9:gG (dS (l.take i) s)++oW (ps,pi)=gG (dS (l.take (i+1)) s):=by rw [DI.o,KW];simp [gG]
    rw [e9]at hA
    go_roundg (l.length-(i+1))
    case measure=>have:=aS.o;omega
    case rel=>exact ⟨i+1,rfl,ad8 aS.o,by first|rfl|go_num,hA⟩
  ·obtain rfl:i=l.length:=by omega
   have c1:¬ (l.length:Int)<(l.length:Int):=oQ;rw [aeH]at hS;clear hlt;go_wp2;go_ret;exact ⟨_,rfl,hS⟩
theorem ahA (p s:ByteArray):(!Op.bytesLess p.toList s.toList && !p.toList==s.toList)=lt s p:=by
 rw [bytesLess_eq,akk,akk];by_cases e:p=s
 ·subst e;rw [lt_irrefl];simp
 ·have he:(p.data.toList==s.data.toList)=false:=by
   have:=ba_eq e;rw [akk,akk]at this;exact this
  rw [he];rcases aac e with h|h
  ·have h2:lt s p=false:=by
    cases h3:lt s p with
    |false=>rfl
    |true=>have:=lt_trans h h3;rw [lt_irrefl]at this;cases this
   rw [h2];unfold lt at h;rw [h];rfl
  ·have h2:lt p s=false:=by
    cases h3:lt p s with
    |false=>rfl
    |true=>have:=lt_trans h h3;rw [lt_irrefl]at this;cases this
   rw [h];unfold lt at h2;rw [h2];rfl
theorem ajV {l:Names}{s:ByteArray}{i:Nat}{p:ByteArray×Nat} (h:lt s p.1=true):jo (p::l) s i=(s,i)::p::l:=by
 show (if lt s p.1 then (s,i)::p::l else p::jo l s i)=_;rw [adU h]
theorem ajU {l:Names}{s:ByteArray}{i:Nat}{p:ByteArray×Nat} (h:lt s p.1=false):jo (p::l) s i=p::jo l s i:=by
 show (if lt s p.1 then (s,i)::p::l else p::jo l s i)=_;rw [abL (by rw [h];decide)]
theorem acs (l:Names) (s:ByteArray) (f:Nat) (hl:l.length<=1048576) (hr:Ro w0 F (aW 2 lv (gG l))) (h:Sat w0 w F) :
  Calls prog 182 #[lv,.agg #[.string s,.int .i64 f]] w (aN λv w'=>∃ ov,v=ov/\Sat w0 w' (aC 236 2 ov (gG (jR l s f))::F)):=by
 have Hr:=uQ hr;have Hl:=uQ hl;clear hr hl;go_enter func182,ntmps182;go_wp2_with (first|((with_reducible refine fC ⟨?_⟩);refine fB aQ ay ay ?_;intro bB wB hB)|((with_reducible refine bC ⟨?_⟩);refine eY aQ ah bK bG ay au ?_));refine (TR l s Hl.o (Ro.os Hr.o) hB).mono ?_;rintro ee w1 ⟨v,rfl,v1,rfl,hS1⟩;have Hz:=uQ (adT (wO l s) Hl.o);have bF:=uQ (show jR l s f=jo (dS l s) s f from rfl);clear h hB;generalize dS l s=k at *
 obtain ⟨ka,kc,rfl⟩:=zK (Sat.rd hS1);go_wp2_with fail;have hS2:Sat w0 w1 (aC 236 2 (.slice none 0 0) (gG [])::aC 236 2 (.slice ka k.length kc) (gG k)::pt bB (.cells #[.string s,.int .i64 f] 236 (0,0))::F):=Sat.dO.2 hS1;clear hS1
 go_loopg [5,6,7] k.length (λg ov dv iq wr=>∃ (i:Nat) (b:Bool) (o:Names),g=k.length-i/\i<=k.length/\iq=.int .i64 i/\dv=.bool b/\o.length<=i+1 /\
  (b=false/\o=k.take i/\jo k s f=k.take i++jo (k.drop i) s f\/b=true/\jo k s f=o++k.drop i) /\
  Sat w0 wr (aC 236 2 ov (gG o)::aC 236 2 (.slice ka k.length kc) (gG k)::pt bB (.cells #[.string s,.int .i64 f] 236 (0,0))::F))
 case atStart=>exact ⟨0,false,[],rfl,ad4 _,rfl,rfl,ad4 _,.inl ⟨rfl,rfl,rfl⟩,hS2⟩
 case round=>
  obtain ⟨i,b,o,rfl,hi,rfl,rfl,hol,hcase,hS⟩:=hrel;clear hS2;by_cases hlt:i<k.length
  ·have aS:=uQ hlt;have hz:=Hz.o;have c1:(i:Int)<(k.length:Int):=oQ;have hwi:=qm (i:=i);obtain ⟨p,hp⟩:∃ p,k[i]?=some p:=⟨_,aaJ hlt⟩;obtain ⟨bk,off,c,hee,hcells⟩:=RI (Sat.rd (hS.pick aT)) hp;cases hee
   have Fb:=uQ (show ∀ w' R,Sat w0 w' (aC 236 2 (.slice (some ⟨bk,off,none⟩) k.length kc) (gG k)::R)->∀ j y,(oW p)[j]?=some y->w'.cell? ⟨bk,off+i*2+j,none⟩=some y from λw' R hw j y hj=>by
    obtain ⟨_,_,_,hee,h0⟩:=RI (Sat.rd hw) hp;cases hee;exact h0 j y hj)
   have hdr:k.drop i=p::k.drop (i+1):=by
    obtain ⟨h1,h2⟩:=acZ.1 hp;rw [<-h2];exact agf h1
   have htk:k.take (i+1)=k.take i++[p]:=by rw [aeN,hp];rfl
   have Hdr:=uQ hdr;have dP:=uQ htk;have Hol:=uQ hol;have hlen:(gG o).length<=2147483648:=by rw [Ia];omega
   have hlen2:(gG (o++[(s,f)])).length<=2147483648:=by rw [Ia,aa7];simp only [ae3];omega
   clear hlt hp hdr htk hcells hol;obtain ⟨ps,pi⟩:=p;have e1:∀ a:Names,gG a++oW (ps,pi)=gG (a++[(ps,pi)]):=λa=>by rw [KW];simp [gG]
   have e2:∀ a:Names,gG a++oW (s,f)=gG (a++[(s,f)]):=λa=>by rw [KW];simp [gG]
   have E1:=uQ e1;have E2:=uQ e2;clear e1 e2;cases b with
   |true=>
    have hcase2:jo k s f=(o++[(ps,pi)])++k.drop (i+1):=by
     rcases hcase with ⟨h1,_⟩|⟨_,h1⟩
     ·cases h1
     ·rw [h1,Hdr.o];simp
    have aeb:=uQ hcase2;clear hcase hcase2;go_wp2_with fail;have hS1:=hS.drew;clear hS;refine eF [10,11] (λ_=>True) au ?_;have hG:True:=trivial;refine rP 0 ?_ (y:=bD);refine rP 1 ?_ (y:=(EY ay bY));refine rP 2 ?_ (y:=bD);refine eu 3 ay au bP ah gQ ?_;refine eu 4 ay au bP ah gQ ?_;refine eu 5 ay au bP ah gQ ?_;refine eu 6 ay au bP ah gQ ?_;refine eu 7 ay au bP ah gQ ?_;refine eu 8 ay au bP ah gQ ?_;refine eu 9 ay au bP ah gQ ?_;refine eu 10 ay au bP ah gQ ?_;refine rP 11 ?_ (y:=(ny ah ay ay));refine dX au ?_;clear hG
    try simp only [jI]
    try go_frame
    go_wp2_with (first
     |((with_reducible refine bC ⟨?_⟩);refine Nk (b:=bk) (o:=off+i*2) (oW (ps,pi)) ah (Fb.o _ _ (hS1.pick aT)) underlying236 rfl Ku ?_)
     |((with_reducible refine jh ⟨?_⟩);refine jg (e:=236) (sz:=2) (dF:=24) au hS1 ah (cs:=(oW (ps,pi)).toArray) rfl rfl bG ?_;intro bN wN hN)
     |((with_reducible refine fZ ⟨?_⟩);refine jF 236 2 24 au hN ah ah (aU (aK (A:=aC 236 2 u5 (gG o)))) aK ah (ab1 1) ah hlen zD0 aG rfl ?_;intro bA nA cA wA hA))
    rw [E1.o]at hA
    go_roundg (k.length-(i+1))
    case measure=>have:=aS.o;omega
    case rel=>exact ⟨i+1,true,o++[(ps,pi)],rfl,ad8 aS.o,by first|rfl|go_num,rfl,by rw [aa7];have:=Hol.o;simp only [ae3];omega,.inr ⟨rfl,aeb.o⟩,hA.sub (dA aK (dA aK iY))⟩
   |false=>
    have hc2:o=k.take i/\jo k s f=k.take i++jo ((ps,pi)::k.drop (i+1)) s f:=by
     rcases hcase with ⟨_,h1,h2⟩|⟨h1,_⟩
     ·exact ⟨h1,by rw [h2,Hdr.o]⟩
     ·cases h1
    obtain ⟨rfl,hc3⟩:=hc2;have Dx:=uQ hc3;go_wp2_with fail;have hS1:=hS.drew;clear hS hcase hc3;have hgl:=ahA ps s;cases hlp:lt s ps with
    |true=>
     rw [hlp]at hgl;have hgt:=hgl;have NP:=uQ (show jo k s f=(k.take i++[(s,f)]++[(ps,pi)])++k.drop (i+1) by rw [Dx.o,ajV (p:=(ps,pi)) hlp];simp);clear hgl hlp Dx;refine eF [10,11] (λw'=>w'.cell? ⟨bk,off+i*2,none⟩=some (.string ps)/\w'.cell? ⟨bB,0,none⟩=some (.string s)) au ?_;have hG:World.cell? _ ⟨bk,off+i*2,none⟩=some (.string ps)/\World.cell? _ ⟨bB,0,none⟩=some (.string s):=⟨Fb.o _ _ (hS1.pick aT) 0 _ rfl,hS1.cellP fE 0 rfl⟩;refine rP 0 ?_ (y:=bD);refine rP 1 ?_ (y:=(EY ay bY));refine rP 2 ?_ (y:=bD);refine rP 3 ?_ (y:=(iI ah ay));refine rP 4 ?_ (y:=(iI ah ay));refine rP 5 ?_ (y:=(qA ah ay ay bY));refine rP 6 ?_ (y:=(ng ah ay bY));refine gJ 7 ay au bP (mX ah ay au (λw hw=>hw.1)) aQ gQ ?_;refine rP 8 ?_ (y:=(ng ah ay bY));refine gJ 9 ay au bP (mX ah ay au (λw hw=>hw.2)) aQ gQ ?_;refine rP 10 ?_ (y:=(qy ah ay ay bY))
     refine rP 11 ?_ (y:=(ny ah ay ay));refine dX au ?_;clear hG
     try simp only [jI]
     try go_frame
     try simp only [hgt]
     go_wp2_with (first
      |((with_reducible refine bC ⟨?_⟩);refine iC (b:=bB) hS1 ah fE underlying236 rfl au ?_)
      |((with_reducible refine jh ⟨?_⟩);refine jg (e:=236) (sz:=2) (dF:=24) au hS1 ah (cs:=(oW (s,f)).toArray) rfl rfl bG ?_;intro bM wM hM)
      |((with_reducible refine fZ ⟨?_⟩);refine jF 236 2 24 au hM ah ah (aU (aK (A:=aC 236 2 u5 (gG (k.take i))))) aK ah (ab1 1) ah hlen zD0 aG rfl ?_;intro bA nA cA wA hA)
      |(with_reducible apply bC))
     rw [E2.o]at hA;have hS2:Sat w0 wA (aC 236 2 (.slice (some ⟨bA,0,none⟩) nA cA) (gG (k.take i++[(s,f)]))::aC 236 2 (.slice (some ⟨bk,off,none⟩) k.length kc) (gG k)::pt bB (.cells #[.string s,.int .i64 f] 236 (0,0))::F):=hA.sub (dA aK (dA aK (dA aK iY)));clear hM hA;refine ⟨Nk (b:=bk) (o:=off+i*2) (oW (ps,pi)) ah (Fb.o _ _ (hS2.pick aT)) underlying236 rfl Ku ?_⟩
     go_wp2_with (first
      |((with_reducible refine jh ⟨?_⟩);refine jg (e:=236) (sz:=2) (dF:=24) au hS2 ah (cs:=(oW (ps,pi)).toArray) rfl rfl bG ?_;intro bN wN hN)
      |((with_reducible refine fZ ⟨?_⟩);refine jF 236 2 24 au hN ah ah (aU (aK (A:=aC 236 2 (.slice (some ⟨bA,0,none⟩) nA cA) (gG (k.take i++[(s,f)]))))) aK ah (ab1 1) ah hlen2 zD0 aG rfl ?_;intro bA2 nA2 cA2 wA2 hA2))
     rw [E1.o]at hA2
     go_roundg (k.length-(i+1))
     case measure=>have:=aS.o;omega
     case rel=>exact ⟨i+1,true,_,rfl,ad8 aS.o,by first|rfl|go_num,rfl,by rw [aa7,aa7,adt];simp only [ae3];omega,.inr ⟨rfl,NP.o⟩,hA2.sub (dA aK (dA aK iY))⟩
    |false=>
     rw [hlp]at hgl;have hgt:=hgl;have NP:=uQ (show jo k s f=k.take (i+1)++jo (k.drop (i+1)) s f by rw [Dx.o,ajU (p:=(ps,pi)) hlp,dP.o];simp);clear hgl hlp Dx;refine eF [10,11] (λw'=>w'.cell? ⟨bk,off+i*2,none⟩=some (.string ps)/\w'.cell? ⟨bB,0,none⟩=some (.string s)) au ?_;have hG:World.cell? _ ⟨bk,off+i*2,none⟩=some (.string ps)/\World.cell? _ ⟨bB,0,none⟩=some (.string s):=⟨Fb.o _ _ (hS1.pick aT) 0 _ rfl,hS1.cellP fE 0 rfl⟩;refine rP 0 ?_ (y:=bD);refine rP 1 ?_ (y:=(EY ay bY));refine rP 2 ?_ (y:=bD);refine rP 3 ?_ (y:=(iI ah ay));refine rP 4 ?_ (y:=(iI ah ay));refine rP 5 ?_ (y:=(qA ah ay ay bY));refine rP 6 ?_ (y:=(ng ah ay bY));refine gJ 7 ay au bP (mX ah ay au (λw hw=>hw.1)) aQ gQ ?_;refine rP 8 ?_ (y:=(ng ah ay bY));refine gJ 9 ay au bP (mX ah ay au (λw hw=>hw.2)) aQ gQ ?_;refine rP 10 ?_ (y:=(qy ah ay ay bY))
     refine rP 11 ?_ (y:=(ny ah ay ay));refine dX au ?_;clear hG
     try simp only [jI]
     try go_frame
     try simp only [hgt]
     go_wp2_with (first
      |((with_reducible refine bC ⟨?_⟩);refine Nk (b:=bk) (o:=off+i*2) (oW (ps,pi)) ah (Fb.o _ _ (hS1.pick aT)) underlying236 rfl Ku ?_)
      |((with_reducible refine jh ⟨?_⟩);refine jg (e:=236) (sz:=2) (dF:=24) au hS1 ah (cs:=(oW (ps,pi)).toArray) rfl rfl bG ?_;intro bN wN hN)
      |((with_reducible refine fZ ⟨?_⟩);refine jF 236 2 24 au hN ah ah (aU (aK (A:=aC 236 2 u5 (gG (k.take i))))) aK ah (ab1 1) ah hlen zD0 aG rfl ?_;intro bA nA cA wA hA))
     rw [E1.o,<-dP.o]at hA
     go_roundg (k.length-(i+1))
     case measure=>have:=aS.o;omega
     case rel=>exact ⟨i+1,false,_,rfl,ad8 aS.o,by first|rfl|go_num,rfl,by rw [adt];omega,.inl ⟨rfl,rfl,NP.o⟩,hA.sub (dA aK (dA aK iY))⟩
  ·obtain rfl:i=k.length:=by omega
   have c1:¬ (k.length:Int)<(k.length:Int):=oQ;rw [aeH,ao4]at hcase;have hz:=Hz.o;have hlen:(gG o).length<=2147483648:=by rw [Ia];omega
   clear hlt;cases b with
   |true=>
    have hc2:jo k s f=o:=by
     rcases hcase with ⟨h1,_⟩|⟨_,h1⟩
     ·cases h1
     ·rw [h1,aei]
    have Hc2:=uQ hc2;clear hcase hc2;go_wp2;go_ret;exact ⟨_,rfl,by rw [bF.o,Hc2.o];exact hS.sub (dA aK (lg (lg iY)))⟩
   |false=>
    have hc2:o=k/\jo k s f=k++[(s,f)]:=by
     rcases hcase with ⟨_,h1,h2⟩|⟨h1,_⟩
     ·exact ⟨h1,h2⟩
     ·cases h1
    obtain ⟨rfl,hc3⟩:=hc2;have Dx:=uQ hc3;clear hcase hc3
    go_wp2_with (first
     |((with_reducible refine bC ⟨?_⟩);refine iC (b:=bB) hS ah fE underlying236 rfl au ?_)
     |((with_reducible refine jh ⟨?_⟩);refine jg (e:=236) (sz:=2) (dF:=24) au hS ah (cs:=(oW (s,f)).toArray) rfl rfl bG ?_;intro bM wM hM)
     |((with_reducible refine fZ ⟨?_⟩);refine jF 236 2 24 au hM ah ah (aU (aK (A:=aC 236 2 u5 (gG o)))) aK ah (ab1 1) ah hlen zD0 aG rfl ?_;intro bA nA cA wA hA))
    go_ret;have e2:gG o++oW (s,f)=gG (o++[(s,f)]):=by rw [KW];simp [gG]
    rw [e2]at hA;exact ⟨_,rfl,by rw [bF.o,Dx.o];exact hA.sub (dA aK (lg (lg iY)))⟩
end
section
variable {D:ak}{xs:List RF}{g:qc}
theorem OY {s:ByteArray} (h:s≠ByteArray.empty):(s.toList==[])=false:=by
 have:=ba_eq h;rw [akk ByteArray.empty]at this;exact this
theorem alq (l:Names) (x:gU) (hl:l.length<=1048575) (hg:(lv,l)∈g) (h:Sat w0 w (vJ g::F)) :
  Calls prog 140 #[lv,.agg #[.string x.fr,.string x.to,.int .i64 x.f]] w (aN λv w'=>∃ ov g',v=ov/\(ov,x.on l)∈g'/\(∀ q∈g,q∈g')/\Sat w0 w' (vJ g'::F)):=by
 have Hg:=uQ hg;have Hl:=uQ hl;obtain ⟨fr,to,f⟩:=x;have sK:=uQ (show (gU.mk fr to f).on l=if to=ByteArray.empty then (if fr=ByteArray.empty then l else dS l fr) else jR (if fr=ByteArray.empty then l else dS l fr) to f from rfl);clear hg hl;go_enter func140,ntmps140;by_cases hf:fr=ByteArray.empty
 ·rw [adU hf]at sK;have e1:=DW hf;clear hf;by_cases ht:to=ByteArray.empty
  ·rw [adU ht]at sK;have e2:=DW ht;clear ht;go_wp2_with (first|((with_reducible refine fC ⟨?_⟩);refine fB aQ ay ay ?_;intro bB wB hB)|((with_reducible refine bC ⟨?_⟩);refine eY aQ ah bK bG ay au ?_));go_ret;exact ⟨_,rfl,_,g,rfl,by rw [sK.o];exact Hg.o,λq hq=>hq,hB.drop⟩
  ·rw [abL ht]at sK;have e2:=OY ht;clear ht;go_wp2_with (first|((with_reducible refine fC ⟨?_⟩);refine fB aQ ay ay ?_;intro bB wB hB)|((with_reducible refine bC ⟨?_⟩);refine eY aQ ah bK bG ay au ?_));refine (acs l to f (apG Hl.o) (Ro.zM (xR Hg.o) aT) hB).mono ?_;rintro ee w1 ⟨v,rfl,v1,rfl,hS1⟩;clear h hB;go_wp2;go_ret;exact ⟨_,rfl,_,_,rfl,by rw [sK.o];exact .head _,λq hq=> .tail _ hq,O4 (hS1.sub (dA aK (lg (dA aK iY))))⟩
 ·rw [abL hf]at sK;have e1:=OY hf;clear hf;by_cases ht:to=ByteArray.empty
  ·rw [adU ht]at sK;have e2:=DW ht;clear ht;go_wp2_with (first|((with_reducible refine fC ⟨?_⟩);refine fB aQ ay ay ?_;intro bB wB hB)|((with_reducible refine bC ⟨?_⟩);refine eY aQ ah bK bG ay au ?_));refine (TR l fr (apG Hl.o) (Ro.zM (xR Hg.o) aT) hB).mono ?_;rintro ee w1 ⟨v,rfl,v1,rfl,hS1⟩;clear h hB;go_wp2_with ((with_reducible refine bC ⟨?_⟩);refine eY aQ ah bK bG ay au ?_);go_ret;exact ⟨_,rfl,_,_,rfl,by rw [sK.o];exact .head _,λq hq=> .tail _ hq,O4 (hS1.sub (dA aK (lg (dA aK iY))))⟩
  ·rw [abL ht]at sK;have e2:=OY ht;clear ht;go_wp2_with (first|((with_reducible refine fC ⟨?_⟩);refine fB aQ ay ay ?_;intro bB wB hB)|((with_reducible refine bC ⟨?_⟩);refine eY aQ ah bK bG ay au ?_));refine (TR l fr (apG Hl.o) (Ro.zM (xR Hg.o) aT) hB).mono ?_;rintro ee w1 ⟨v,rfl,v1,rfl,hS1⟩;clear h hB;have hz:(dS l fr).length<=1048576:=adT (wO l fr) (apG Hl.o);have Hz:=uQ hz;clear hz;go_wp2_with ((with_reducible refine bC ⟨?_⟩);refine eY aQ ah bK bG ay au ?_);refine (acs (dS l fr) to f Hz.o (λw hw=>Sat.rd (hw.pick aK)) hS1).mono ?_;rintro ee w2 ⟨v,rfl,v2,rfl,hS2⟩;clear hS1;go_wp2;go_ret;exact ⟨_,rfl,_,_,rfl,by rw [sK.o];exact .head _,λq hq=> .tail _ hq,O4 (hS2.sub (dA aK (lg (lg (dA aK iY)))))⟩
theorem ab2 (h:Sat w0 w (vM d D gV fv nv wv::F)) (hl:D.left<=9223372036854775807) :
  Calls prog 87 #[ptr d] w (aN λv w'=>v=errno (bif D.step.2 then 0 else 12)/\Sat w0 w' (vM d D.step.1 gV fv nv wv::F)):=by
 obtain ⟨room,fast,now,files,waits,armed,left,off⟩:=D;have c5:=h.cellAt 5 _ rfl;have c6:=h.cellAt 6 _ rfl;have f7:=h.oC 7;have c7:=h.cellAt 7 _ rfl;have f6:=h.oC 6;simp only at hl;go_enter func87,ntmps87;cases armed
 ·go_wp2;go_ret;exact ⟨_,rfl,by simp [ak.step],by simpa [ak.step] using h⟩
 ·by_cases hz:left=0
  ·subst hz;have c6':w.cell? ⟨d,6,none⟩=some (.int .i64 0):=c6;have c5':w.cell? ⟨d,5,none⟩=some (.bool true):=c5;clear c6 c5;go_wp2;go_ret;exact ⟨_,rfl,rfl,h.set 7 (.bool true)⟩
  ·have hz':((left:Int)==0)=false:=by simpa using hz
   have e1:((left-1:Nat):Int)=(left:Int)-1:=oQ;go_wp2;go_ret;refine ⟨_,rfl,by simp [ak.step,hz],?_⟩;have:=h.set 6 (.int .i64 ((left:Int)-1));simp only [ak.step,hz,apc,ao7,vM,e1];exact this
theorem alo (i:Nat) (hi:i<D.files.length) (hin:sG D fv nv xs g) (hlen:(D.file i).now.length<=1099511627776) (h:Sat w0 w (vM d D gV fv nv wv::aC 176 3 gV (iR xs)::stars (xs.map je)::F)) :
  Calls prog 92 #[ptr d,.int .i64 i] w (aN λv w'=>Sat w0 w' (aY v (D.file i).now::vM d D gV fv nv wv::aC 176 3 gV (iR xs)::stars (xs.map je)::F)/\∃ a n c,v=.slice a n c):=by
 obtain ⟨x,hx,yh⟩:=hin.file hi;have hl:xs.length=D.files.length:=by rw [<-hin.files,abl]
 obtain ⟨h0,h1,h2⟩:=S9 hx;have hrd:=Sat.rd (h.pick aT);obtain ⟨fa,fn,fc,rfl,hfn,_⟩:=id hrd;rw [yJ]at hfn;obtain rfl:fn=xs.length:=by omega
 obtain ⟨bk,off,rfl,hc⟩:=oJ hrd h0;have e1:w.cell? ⟨bk,off+i*3+1,none⟩=some x.nv:=by rw [apq];exact hc _ _ h1
 have e0:w.cell? ⟨d,1,none⟩=some (.slice (some ⟨bk,off,none⟩) xs.length fc):=h.cellAt 1 _ rfl;have c1:(i:Int)<(xs.length:Int):=oQ;have hcp:=Pj h (D.file i).now (by rw [<-yh];exact (X6 (acr hx)).1 _ (h.pick fE)) hlen;generalize x.nv=xn at *
 clear hrd hc h0 h1 h2 hx;go_enter func92,ntmps92;go_wp2_with fail;refine hcp.mono ?_;rintro ee w1 ⟨v,rfl,hS,a,n,c,rfl⟩;go_wp2;go_ret;exact ⟨_,rfl,hS,_,_,_,rfl⟩
end
section
variable {D:ak}{xs:List RF}{g:qc}
theorem aln (s:ByteArray) (w:World) (hs:s.size<=9223372036854775806) :
  Calls prog 84 #[.string s] w (aN λv w'=>v=.bool (good s)/\w=w'):=by
 have Hs:=uQ hs;clear hs;go_enter func84,ntmps84;go_wp2_with fail
 go_loopg [3] s.size (λg iq wr=>∃ k:Nat,g=s.size-k/\k<=s.size/\iq=.int .i64 k/\(s.data.toList.take k).all l9=true/\wr=w)
 case atStart=>exact ⟨0,rfl,ad4 _,rfl,by simp,rfl⟩
 case round=>
  obtain ⟨k,rfl,hk,rfl,hall,rfl⟩:=hrel;have ug:=uQ hall;clear hall;by_cases hlt:k<s.size
  ·have hs:=Hs.o;have hwk:IntKind.i64.wrap ((k:Int)+1)=(k:Int)+1:=acO _ oQ;have c1:(k:Int)<(s.size:Int):=oQ;have Hc:=uQ (Yy s[k]);have Hn:=uQ (V8 s.data.toList k zH0)
   have nV:=uQ (show l9 s[k]=false->good s=false by
    intro hgc;unfold good;have:s.data.toList.all l9=false:=by
     rw [List.all_eq_false];exact ⟨s[k],by exact apn zH0,by simpa using hgc⟩
    rw [this];simp)
   have xH:=uQ (show l9 s[k]=true->(s.data.toList.take (k+1)).all l9=true by
    intro hgc;rw [Hn.o,ug.o];exact hgc)
   have aS:=uQ hlt;have hcls:(97<=(s[k].toNat:Int)/\(s[k].toNat:Int)<=122)\/(48<=(s[k].toNat:Int)/\(s[k].toNat:Int)<=57)\/(s[k].toNat:Int)=46\/(s[k].toNat:Int)=45\/((s[k].toNat:Int)<48/\(s[k].toNat:Int)≠46/\(s[k].toNat:Int)≠45)\/(58<=(s[k].toNat:Int)/\(s[k].toNat:Int)<=96)\/123<=(s[k].toNat:Int):=oQ;rcases hcls with ⟨g1,g2⟩|⟨g1,g2⟩|g1|g1|⟨g1,g2,g3⟩|⟨g1,g2⟩|g1
   ·have d1:decide ((s[k].toNat:Int)<97)=false:=aea oQ;have d2:decide (122<(s[k].toNat:Int))=false:=aea oQ;have Ar:=uQ (xH.o yH0);go_wp2
    go_roundg (s.size-(k+1))
    case rel=>exact ⟨k+1,rfl,ad8 aS.o,by first|rfl|go_num,Ar.o,rfl⟩
    case measure=>have:=aS.o;omega
   ·have d1:decide ((s[k].toNat:Int)<97)=true:=aem oQ;have d3:decide ((s[k].toNat:Int)<48)=false:=aea oQ;have d4:decide (57<(s[k].toNat:Int))=false:=aea oQ;have Ar:=uQ (xH.o yH0);go_wp2
    go_roundg (s.size-(k+1))
    case rel=>exact ⟨k+1,rfl,ad8 aS.o,by first|rfl|go_num,Ar.o,rfl⟩
    case measure=>have:=aS.o;omega
   ·have d1:decide ((s[k].toNat:Int)<97)=true:=aem oQ;have d3:decide ((s[k].toNat:Int)<48)=true:=aem oQ;have d5:((s[k].toNat:Int) != 46)=false:=by rw [g1];rfl
    have Bv:((s[k].toNat:Int)==46)=true:=by rw [g1];rfl
    have g2:46<=(s[k].toNat:Int)/\(s[k].toNat:Int)<=46:=oQ;clear g1;have Ar:=uQ (xH.o yH0);go_wp2
    go_roundg (s.size-(k+1))
    case rel=>exact ⟨k+1,rfl,ad8 aS.o,by first|rfl|go_num,Ar.o,rfl⟩
    case measure=>have:=aS.o;omega
   ·have d1:decide ((s[k].toNat:Int)<97)=true:=aem oQ;have d3:decide ((s[k].toNat:Int)<48)=true:=aem oQ;obtain ⟨b5,d5,t5⟩:∃ b,((s[k].toNat:Int) != 46)=b/\b=true:=⟨_,rfl,by rw [g1];rfl⟩;have Bv:((s[k].toNat:Int)==46)=false:=by rw [g1];rfl
    have d6:((s[k].toNat:Int) != 45)=false:=by rw [g1];rfl
    have d6':((s[k].toNat:Int)==45)=true:=by rw [g1];rfl
    have g2:45<=(s[k].toNat:Int)/\(s[k].toNat:Int)<=45:=oQ;clear g1;have Ar:=uQ (xH.o yH0);go_wp2
    ·exfalso;simp only [bne_eq_false_iff_eq,ahV]at *;omega
    go_roundg (s.size-(k+1))
    case rel=>exact ⟨k+1,rfl,ad8 aS.o,by first|rfl|go_num,Ar.o,rfl⟩
    case measure=>have:=aS.o;omega
   ·have d1:decide ((s[k].toNat:Int)<97)=true:=aem oQ;have d3:decide ((s[k].toNat:Int)<48)=true:=aem oQ;have Bv:((s[k].toNat:Int)==46)=false:=aoW oQ;have d6':((s[k].toNat:Int)==45)=false:=aoW oQ;obtain ⟨b5,d5,t5⟩:∃ b,((s[k].toNat:Int) != 46)=b/\b=true:=⟨_,rfl,by rw [bne,Bv];rfl⟩;obtain ⟨b6,d6,t6⟩:∃ b,((s[k].toNat:Int) != 45)=b/\b=true:=⟨_,rfl,by rw [bne,d6'];rfl⟩;have Hb:=uQ (nV.o yH0);go_wp2;go_ret;exact ⟨_,rfl,by rw [Hb.o];rfl,rfl⟩
    all_goals (exfalso;simp only [bne_eq_false_iff_eq]at *;omega)
   ·have d1:decide ((s[k].toNat:Int)<97)=true:=aem oQ;have d3:decide ((s[k].toNat:Int)<48)=false:=aea oQ;have d4:decide (57<(s[k].toNat:Int))=true:=aem oQ;have Bv:((s[k].toNat:Int)==46)=false:=aoW oQ;have d6':((s[k].toNat:Int)==45)=false:=aoW oQ;obtain ⟨b5,d5,t5⟩:∃ b,((s[k].toNat:Int) != 46)=b/\b=true:=⟨_,rfl,by rw [bne,Bv];rfl⟩;obtain ⟨b6,d6,t6⟩:∃ b,((s[k].toNat:Int) != 45)=b/\b=true:=⟨_,rfl,by rw [bne,d6'];rfl⟩;have Hb:=uQ (nV.o yH0);go_wp2;go_ret;exact ⟨_,rfl,by rw [Hb.o];rfl,rfl⟩
    all_goals (exfalso;simp only [bne_eq_false_iff_eq]at *;omega)
   ·have d1:decide ((s[k].toNat:Int)<97)=false:=aea oQ;have d2:decide (122<(s[k].toNat:Int))=true:=aem oQ;have d3:decide ((s[k].toNat:Int)<48)=false:=aea oQ;have d4:decide (57<(s[k].toNat:Int))=true:=aem oQ;have Bv:((s[k].toNat:Int)==46)=false:=aoW oQ;have d6':((s[k].toNat:Int)==45)=false:=aoW oQ;obtain ⟨b5,d5,t5⟩:∃ b,((s[k].toNat:Int) != 46)=b/\b=true:=⟨_,rfl,by rw [bne,Bv];rfl⟩;obtain ⟨b6,d6,t6⟩:∃ b,((s[k].toNat:Int) != 45)=b/\b=true:=⟨_,rfl,by rw [bne,d6'];rfl⟩;have Hb:=uQ (nV.o yH0);go_wp2;go_ret;exact ⟨_,rfl,by rw [Hb.o];rfl,rfl⟩
    all_goals (exfalso;simp only [bne_eq_false_iff_eq]at *;omega)
  ·obtain rfl:k=s.size:=by omega
   have Ei:s.data.toList.all l9=true:=by
    have:=ug.o;rw [adZ yF0]at this;exact this
   have c1:¬ (s.size:Int)<(s.size:Int):=oQ;have Hg:=uQ (show good s=(decide (1<=s.size) && decide (s.size<=24)) by unfold good;rw [Ei,Bool.and_true]);clear hlt Ei;by_cases h0:0<s.size
   ·have d0:decide ((0:Int)<(s.size:Int))=true:=aem oQ;by_cases qL:s.size<=24
    ·have d24:decide ((s.size:Int)<=24)=true:=aem oQ;have Hf:=uQ (Hg.o.trans (show _=true by rw [aem (show 1<=s.size by omega),aem qL];rfl));go_wp2;go_ret;exact ⟨_,rfl,by rw [Hf.o];rfl,rfl⟩
    ·have d24:decide ((s.size:Int)<=24)=false:=aea oQ;have Hf:=uQ (Hg.o.trans (show _=false by rw [aea qL,Bool.and_false]));go_wp2;go_ret;exact ⟨_,rfl,by rw [Hf.o];rfl,rfl⟩
   ·have d0:decide ((0:Int)<(s.size:Int))=false:=aea oQ;have Hf:=uQ (Hg.o.trans (show _=false by rw [aea (show ¬ 1<=s.size by omega),Bool.false_and]));go_wp2;go_ret;exact ⟨_,rfl,by rw [Hf.o];rfl,rfl⟩
end
section
variable {o:Nat}{t:TypeId}{pos:String}{K:Act->World->Prop}{E:Prop}
theorem pI (hs:Sat w0 w L) (hx:a.eval x=.pointer (some ⟨b,o,none⟩)) (hy:a.eval y=v){cs':Array Value} (hcs:eH cs o v.cells.toList=cs') (u:pF (pt b (.cells cs T (0,0))) (pt b (.cells cs' T (0,0))) L L') (hfit:o+v.cells.size<=cs.size)
  (hi:(P.info? ty).map (·.size)=some v.cells.size) (h1:v.cells.toList.all (·.oneCell')=true)
  (hK:∀ w',Sat w0 w' L'->K (a.put dst undef) w') :
  if Region.wanted ⟨dst,.store ty x y,t,pos,after,none⟩ (yielded ops a.tmps)=true then Oper.wp P ⟨dst,.store ty x y,t,pos,after,none⟩ a w K Q else E:=by
 subst hcs;obtain ⟨R',h2,h3⟩:=u;refine BD rfl ?_;have h:=hs.perm h2;have hth:w.there b o v.cells.size:=by
  intro j hj;refine ⟨?_,h.oC _⟩;rw [h.cellAt (o+j) _ (ajC (show o+j<cs.size by omega))]
  rfl
 have hst:=run_storeCells_cells (P:=P) b o v.cells.toList 0 w (λj hj=>by simpa using (hth j yX0).1) (λj hj=>by simpa using (hth j yX0).2)
  (λu hu=>(agt.1 h1) u hu)
 have hrun:(storeVar ty ⟨b,o,none⟩ v).run P w=.ok () (w.setCells b o v.cells.toList):=by
  cases hq:P.info? ty with
  |none=>simp [hq]at hi
  |some i=>
   have hs:v.cells.size=i.size:=by simp [hq]at hi;omega
   simp only [aml]at hst;simp [storeVar,sizeOf,typeInfo,hq,hs,hst]
 unfold Oper.wp execOp;simp only [hx,hy,Instr.storeAt,Instr.sureAddr,aed,aep,adW,hrun];exact hK _ ((Sat.sets _ _ h).perm h3.symm)
end
section
variable {D:ak}{xs:List RF}{g:qc}
theorem alz (room:Nat) (hr:room<=16777216) (h:Sat w0 w F) :
  Calls prog 32 #[.int .i64 room] w (aN λv w'=>∃ d,v=.tuple #[ptr d,errno 0]/\Sat w0 w' (fH d (ak.new room)::F)):=by
 have h2:decide ((room:Int)<0)=false:=by rw [aeJ];omega
 have h3:decide (16777216<(room:Int))=false:=by rw [aeJ];omega
 have hr2:¬ 16777216<room:=oQ;clear hr;go_enter func32,ntmps32;go_wp2_with ((with_reducible refine fC ⟨?_⟩);refine fB aQ ay ay ?_;intro bB wB hB)
 go_ret2
 refine ⟨_,rfl,_,rfl,fH.shut (gV:= .slice none 0 0) (fv:= .slice none 0 0) (nv:= .slice none 0 0) (wv:= .slice none 0 0) (xs:=[]) (g:=[(.slice none 0 0,[])]) ⟨rfl,(λx hx=>by cases hx),.head _,.head _⟩ ?_⟩;have h5:Sat w0 _ (aC 179 3 (.slice none 0 0) []::vM _ (ak.new room) (.slice none 0 0) (.slice none 0 0) (.slice none 0 0) (.slice none 0 0)::F):=Sat.dO.2 hB;have h6:=Sat.star.2 (Sat.dO (T:=236) (sz:=2) |>.2 (Sat.emp.2 h5));have h7:=Sat.dO (T:=176) (sz:=3) |>.2 (Sat.emp.2 h6);exact h7.sub (dA rW (dA aK (dA aK (dA aK (dA aK iY)))))
theorem alr (l:List gU):(l.flatMap uY).length=3*l.length:=by
 induction l with
 |nil=>rfl
 |cons x l ih=>rw [aen,aa7,ih,aev];show 3+3*l.length=_;omega
theorem als (l:List gU) (x:gU):l.flatMap uY++uY x=(l++[x]).flatMap uY:=by rw [aeB];simp
theorem amn (x:gU) (hl:D.now.length<=1048575) (hw:D.waits.length<=1048576) (h:Sat w0 w (fH d D::F)) :
  Calls prog 88 #[ptr d,.agg #[.string x.fr,.string x.to,.int .i64 x.f]] w (aN λ_ w'=>Sat w0 w' (fH d (D.link x)::F)):=by
 obtain ⟨gV,fv,nv,wv,xs,g,hin,hR⟩:=fH.open h;have aA:=uQ hin;have Hl:=uQ hl;have hlen:(D.waits.flatMap uY).length<=2147483648:=by rw [alr];omega
 have hsl:∃ a n c,wv=.slice a n c:=by
  obtain ⟨a,n,c,e,_⟩:=Sat.rd (hR.pick rW);exact ⟨a,n,c,e⟩
 obtain ⟨wa,wn,wc,rfl⟩:=hsl;obtain ⟨na,nc,rfl⟩:=zK (xR (w0:=w0) hin.now w (hR.pick iw));have e4:w.cell? ⟨d,4,none⟩=some (.slice wa wn wc):=hR.cellP aK 4 rfl;clear h hin hl hw;obtain ⟨fr,to,f⟩:=x;go_enter func88,ntmps88
 go_wp2_with (first
  |((with_reducible refine fC ⟨?_⟩);refine fB aQ ay ay ?_;intro bB wB hB)
  |((with_reducible refine bC ⟨?_⟩);refine iC (b:=bB) hB ah aK underlying179 rfl au ?_)
  |((with_reducible refine bC ⟨?_⟩);refine eY aQ ah bK bG ay au ?_)
  |((with_reducible refine jh ⟨?_⟩);refine jg (e:=179) (sz:=3) (dF:=40) au hB ah (cs:=#[.string fr,.string to,.int .i64 f]) rfl rfl bG ?_;intro bN wN hN)
  |((with_reducible refine fZ ⟨?_⟩);refine jF 179 3 40 au hN ah ah (aU (aU (aU (aU (aU (aU aK)))))) aK ah (ab1 1) ah hlen (by show 3<=65536;decide) aG rfl ?_;intro bA nA cA wA hA)
  |((with_reducible refine bW ⟨?_⟩);refine jM aQ ah ay pQ gZ bG au ah ?_;intro wS hS))
 have hS3:Sat w0 _ (vJ g::aC 179 3 (.slice (some ⟨bA,0,none⟩) nA cA) (D.waits.flatMap uY++[.string fr,.string to,.int .i64 f])::pt bB (.cells #[.string fr,.string to,.int .i64 f] 179 (0,0))::pt d (.cells #[.int .i64 D.room,gV,fv,.slice na D.now.length nc,.slice (some ⟨bA,0,none⟩) nA cA,.bool D.armed,.int .i64 D.left,.bool D.off] 168 (0,0))::aC 176 3 gV (iR xs)::stars (xs.map je)::F):=hS.drew.sel 6 [5,0,1,2,3,4] rfl rfl;have hlk:=alq D.now ⟨fr,to,f⟩ Hl.o aA.o.now hS3;refine eF [6,7,8,9] (λw'=>w'.cell? ⟨d,3,none⟩=some (.slice na D.now.length nc)/\w'.rangeAt bB 0 [.string fr,.string to,.int .i64 f]) au ?_;have hG:World.cell? _ ⟨d,3,none⟩=some (.slice na D.now.length nc)/\World.rangeAt _ bB 0 [.string fr,.string to,.int .i64 f]:=⟨hS3.cellP iw 3 rfl,λj u hj=>by rw [aeE];exact (hS3.pick fE).cellAt j u yX0⟩;refine rP 0 ?_ (y:=bD);refine rP 1 ?_ (y:=bD)
 refine rP 2 ?_ (y:=iG);refine rP 3 ?_ (y:=dh);refine gJ 4 ay au bP (acX ay au (λw hw=>hw.1)) aQ gQ ?_;refine gJ 5 ay au bP (anp (P:=prog) [.string fr,.string to,.int .i64 f] ah ay rfl rfl au (λw hw=>hw.2)) aQ gQ ?_;clear hG;refine cZ 6 ay au (λK hK=>?_);refine jB au ay ay ?_;refine hlk.mono ?_;clear hlk;rintro e w4 ⟨v,rfl,ov,g',rfl,hon,hsub,hS4⟩;obtain ⟨oa,oc,rfl⟩:=zK (xR (w0:=w0) hon w4 (hS4.pick aK));refine hK _ _ (.inl rfl) ?_;clear hK;refine rP 7 ?_ (y:=iG);refine rP 8 ?_ (y:=dh);refine cZ 9 ay au (λK hK=>?_);refine pI hS4 ay ay pQ gZ bG au ah ?_;intro w5 hS5;refine hK _ _ (.inl rfl) ?_;refine dX au ?_;clear hS4 hS3 hS hA hN hB hR
 try go_frame
 go_wp2;refine bodyPost_ret (results_none rfl _ _ _) rfl ?_;refine ⟨_,rfl,fH.shut (D:=D.link ⟨fr,to,f⟩) (fv:=fv) (gV:=gV) (wv:= .slice (some ⟨bA,0,none⟩) nA cA) ⟨aA.o.files,aA.o.ok,hsub _ aA.o.fast,hon⟩ ?_⟩;have e:D.waits.flatMap uY++[.string fr,.string to,.int .i64 f]=(D.link ⟨fr,to,f⟩).waits.flatMap uY:=als D.waits ⟨fr,to,f⟩;rw [e]at hS5;exact hS5.sub (dA iw (dA iw (dA iw (dA aK (dA aK (lg iY))))))
end
def sD (D:ak) (l:Names):Nat:=(l.map λp=>(D.file p.2).now.length).sum
theorem anJ (D:ak) (l:Names) (p:ByteArray×Nat):sD D (l++[p])=sD D l+(D.file p.2).now.length:=by unfold sD;simp
theorem anK (D:ak){i:Nat}{p:ByteArray×Nat} (h:D.now[i]?=some p):sD D (D.now.take (i+1))=sD D (D.now.take i)+(D.file p.2).now.length:=by
 rw [aeN,h];exact anJ D _ p
theorem anI (D:ak) (i:Nat):sD D (D.now.take i)<=D.used:=by
 have e:D.used=sD D (D.now.take i++D.now.drop i):=by rw [aeX];rfl
 rw [e];unfold sD;rw [aef,List.sum_append];omega
section
variable {D:ak}{xs:List RF}{g:qc}
theorem amk (hl:D.now.length<=1048576) (hu:D.used<=1099511627776) (hv:∀ p∈D.now,p.2<D.files.length) (h:Sat w0 w (fH d D::F)) :
  Calls prog 91 #[ptr d] w (aN λv w'=>v=.int .i64 D.used/\Sat w0 w' (fH d D::F)):=by
 obtain ⟨gV,fv,nv,wv,xs,g,hin,hR⟩:=fH.open h;have aA:=uQ hin;have Hl:=uQ hl;have Hu:=uQ hu;have Hv:=uQ hv;have Jk:=uQ (show xs.length=D.files.length by rw [<-hin.files,abl]);have hn:=Tf hR;obtain ⟨na,nc,rfl⟩:=zK (xR (w0:=w0) hin.now w (hR.pick iw));obtain ⟨fa,fn,fc,rfl,hfn,_⟩:=Sat.rd (hR.pick aT);rw [yJ]at hfn;obtain rfl:fn=xs.length:=by omega
 clear h hin hl hu hv hfn;go_enter func91,ntmps91;go_wp2_with fail;refine hn.mono ?_;rintro ee w1 ⟨v,rfl,rfl,rfl⟩;clear hn;go_wp2_with fail
 go_loopg [4,5] D.now.length (λg' nq iq wr=>∃ i:Nat,g'=D.now.length-i/\i<=D.now.length/\nq=.int .i64 (sD D (D.now.take i):Nat)/\iq=.int .i64 i/\Sat w0 wr (vM d D (.slice fa xs.length fc) fv (.slice na D.now.length nc) wv::aC 176 3 (.slice fa xs.length fc) (iR xs)::stars (xs.map je)::vJ g::aC 179 3 wv (D.waits.flatMap uY)::F))
 case atStart=>exact ⟨0,rfl,ad4 _,rfl,rfl,hR⟩
 case round=>
  obtain ⟨i,rfl,hi,rfl,rfl,hS⟩:=hrel;clear hR;by_cases hlt:i<D.now.length
  ·have hl:=Hl.o;have c1:(i:Int)<(D.now.length:Int):=oQ;have hwi:=qm (i:=i);obtain ⟨p,hp⟩:∃ p,D.now[i]?=some p:=⟨_,aaJ hlt⟩;have hS2:=hS.drew;obtain ⟨bk,off,c,hee,_,e1⟩:=RN (xR (w0:=w0) aA.o.now _ (hS2.pick iw)) hp;cases hee;have hpf:=Hv.o p (acr hp);obtain ⟨x,hx,yh⟩:=aA.o.file hpf;have hlx:=Jk.o;obtain ⟨_,h1,_⟩:=S9 hx;obtain ⟨bk2,off2,hfe,hc⟩:=oJ (Sat.rd (hS2.pick aT)) h1;subst hfe;have e2:(World.drew wr).cell? ⟨bk2,off2+p.2*3+1,none⟩=some x.nv:=by rw [apq];exact hc _ _ h1
   obtain ⟨xa,xn,xc,hxe,hxl,_⟩:=(X6 (w0:=w0) (acr hx)).1 _ (hS2.pick fE);rw [hxe]at e2;have hxn:xn=(D.file p.2).now.length:=by rw [<-yh];unfold aB at hxl;rw [abl]at hxl;omega
   subst hxn;have e0:(World.drew wr).cell? ⟨d,1,none⟩=some (.slice (some ⟨bk2,off2,none⟩) xs.length fc):=hS2.cellP aK 1 rfl;have c2:(p.2:Int)<(xs.length:Int):=oQ;have uy:=uQ (anK D hp);have hle:=anI D (i+1);rw [uy.o]at hle;have hu:=Hu.o;have hw2:IntKind.i64.wrap ((sD D (D.now.take i):Int)+((D.file p.2).now.length:Int))=(sD D (D.now.take i):Int)+((D.file p.2).now.length:Int):=acO _ oQ;have aS:=uQ hlt;have aec:=uQ (show ((sD D (D.now.take (i+1)):Nat):Int)=(sD D (D.now.take i):Int)+((D.file p.2).now.length:Int) by rw [uy.o];omega);clear hlt hp hl hle hu uy hx yh hxe hxl hc h1 hpf hlx hS;generalize sD D (D.now.take i)=U at *
   generalize (D.file p.2).now.length=V at *
   generalize p.2=f at *
   go_wp2_with fail;refine eF [13,14,15] (λw'=>w'.cell? ⟨d,1,none⟩=some (.slice (some ⟨bk2,off2,none⟩) xs.length fc)/\w'.cell? ⟨bk,off+i*2+1,none⟩=some (.int .i64 f)/\w'.cell? ⟨bk2,off2+f*3+1,none⟩=some (.slice xa V xc)) au ?_;have hG:=And.intro e0 (And.intro e1 e2);refine rP 0 ?_ (y:=bD);refine rP 1 ?_ (y:=bD);refine rP 2 ?_ (y:=iG);refine rP 3 ?_ (y:=dh);refine rt 4 (h:=?_);refine rP 5 ?_ (y:=bD);refine rP 6 ?_ (y:=bD);refine rP 7 ?_ (y:=iV);refine rP 8 ?_ (y:=dh);refine rt 9 (h:=?_);refine rP 10 ?_ (y:=iV);refine rP 11 ?_ (y:=dh);refine rt 12 (h:=?_);refine rP 13 ?_ (y:=(xw ay bY));refine rP 14 ?_ (y:=lZ);refine rP 15 ?_ (y:=jU);refine dX au ?_;clear hG
   try simp only [jI]
   try go_frame
   go_wp2
   go_roundg (D.now.length-(i+1))
   case measure=>have:=aS.o;omega
   case rel=>exact ⟨i+1,rfl,ad8 aS.o,by rw [aec.o],by first|rfl|go_num,hS2⟩
  ·obtain rfl:i=D.now.length:=by omega
   have c1:¬ (D.now.length:Int)<(D.now.length:Int):=oQ;rw [aeH];clear hlt;go_wp2;go_ret;exact ⟨_,rfl,rfl,fH.shut aA.o hS⟩
end
def RF.zero:RF:=⟨aX.new,.slice none 0 0,.slice none 0 0,.slice none 0 0,[]⟩
theorem MB (D:ak):D.step.1.files=D.files:=by unfold ak.step;split;(split <;> rfl);rfl
theorem Ug (D:ak):D.step.1.now=D.now:=by unfold ak.step;split;(split <;> rfl);rfl
theorem acN (D:ak):D.step.1.fast=D.fast:=by unfold ak.step;split;(split <;> rfl);rfl
theorem MC (D:ak):D.step.1.waits=D.waits:=by unfold ak.step;split;(split <;> rfl);rfl
section
variable {D:ak}{xs:List RF}{g:qc}
theorem alk (h:Sat w0 w (stars (xs.map je)::F)):Sat w0 w (stars ((xs++[RF.zero]).map je)::F):=by
 rw [aef,qx];refine Sat.star.2 ?_;refine Sat.sub (L:=stars ([RF.zero].map je)::stars (xs.map je)::F) ?_ (dA aT (dA aK iY));refine Sat.star.2 ?_;have h1:Sat w0 w (stars ([]:List aF)::stars (xs.map je)::F):=Sat.emp.2 h;refine Sat.star.2 ?_;exact Sat.dO.2 (Sat.star.2 (Sat.dO.2 (Sat.star.2 (Sat.dO.2 (Sat.star.2 (Sat.emp.2 (Sat.emp.2 h1)))))))
theorem afn {a:Option Addr}{n c:Nat}{ks:List Value} (hA:Sat w0 w (aC 176 3 (.slice a n c) (iR xs++ks)::R)) (hk:ks.length=3):n=xs.length+1:=by
 obtain ⟨_,_,_,he,hl,_⟩:=Sat.rd hA;cases he;rw [aa7,yJ,hk]at hl;omega
theorem Lu (s:ByteArray) (hs:s.size<=9223372036854775806) (hl:D.now.length<=1048575) (hw:D.waits.length<=1048576) (hfs:D.files.length<=1048576) (hlf:D.left<=9223372036854775807) (h:Sat w0 w (fH d D::F)) :
  Calls prog 37 #[ptr d,.string s] w (aN λv w'=>v=errno (D.create s).2/\Sat w0 w' (fH d (D.create s).1::F)):=by
 have hfd:=abE s oQ h;obtain ⟨gV,fv,nv,wv,xs,g,hin,hR⟩:=fH.open h;have aA:=uQ hin;have Hl:=uQ hl;have Hw:=uQ hw;have nJ:=uQ hfs;have Hlf:=uQ hlf;have e7:w.cell? ⟨d,7,none⟩=some (.bool D.off):=hR.cellP aK 7 rfl;clear h hin hl hw hfs hlf;have hn:=Tf hR;obtain ⟨na,nc,rfl⟩:=zK (xR (w0:=w0) aA.o.now w (hR.pick iw));have hgd:=aln s w hs;cases ho:D.off with
 |true=>
  have Ha:=uQ (show D.create s=(D,12) by unfold ak.create;rw [ho];rfl);rw [ho]at e7;clear ho hfd hn hgd;go_enter func37,ntmps37;go_wp2;go_ret;exact ⟨_,rfl,by rw [Ha.o];rfl,by rw [Ha.o];exact fH.shut aA.o hR⟩
 |false=>
  rw [ho]at e7;have Ho:=uQ (show ¬ (D.off=true) by rw [ho];decide);clear ho;cases hg:good s with
  |false=>
   have Ha:=uQ (show D.create s=(D,7) by unfold ak.create;rw [abL Ho.o,adU hg]);rw [hg]at hgd;clear hfd hn hg;go_enter func37,ntmps37;go_wp2_with fail;refine hgd.mono ?_;rintro ee w1 ⟨v,rfl,rfl,rfl⟩;clear hgd;go_wp2;go_ret;exact ⟨_,rfl,by rw [Ha.o];rfl,by rw [Ha.o];exact fH.shut aA.o hR⟩
  |true=>
   have Hg:=uQ (show ¬ (good s=false) by rw [hg];decide);rw [hg]at hgd;clear hg;cases hk:bH D.now s with
   |some i=>
    have Ha:=uQ (show D.create s=(D,10) by unfold ak.create;rw [abL Ho.o,abL Hg.o,hk];rfl);have hwh:D.which s=(i:Int):=by unfold ak.which;rw [hk]
    rw [hwh]at hfd;have c1:0<=(i:Int):=oQ;clear hn hk hwh;go_enter func37,ntmps37;go_wp2_with fail;refine hgd.mono ?_;rintro ee w1 ⟨v,rfl,rfl,rfl⟩;clear hgd;go_wp2_with fail;refine hfd.mono ?_;rintro ee w1 ⟨v,rfl,rfl,rfl⟩;clear hfd;go_wp2;go_ret;exact ⟨_,rfl,by rw [Ha.o];rfl,by rw [Ha.o];exact fH.shut aA.o hR⟩
   |none=>
    have hwh:D.which s = -1:=by unfold ak.which;rw [hk]
    rw [hwh]at hfd;have Hk:=uQ (show ¬ ((bH D.now s).isSome=true) by rw [hk];decide);clear hk hwh;by_cases hb:500<=D.now.length
    ·have Ha:=uQ (show D.create s=(D,16) by unfold ak.create;rw [abL Ho.o,abL Hg.o,abL Hk.o,adU hb]);have c1:500<=(D.now.length:Int):=oQ;clear hb;go_enter func37,ntmps37;go_wp2_with fail;refine hgd.mono ?_;rintro ee w1 ⟨v,rfl,rfl,rfl⟩;clear hgd;go_wp2_with fail;refine hfd.mono ?_;rintro ee w1 ⟨v,rfl,rfl,rfl⟩;clear hfd;go_wp2_with fail;refine hn.mono ?_;rintro ee w1 ⟨v,rfl,rfl,rfl⟩;clear hn;go_wp2;go_ret;exact ⟨_,rfl,by rw [Ha.o];rfl,by rw [Ha.o];exact fH.shut aA.o hR⟩
    ·have c1:¬ 500<=(D.now.length:Int):=by omega
     have Hb:=uQ hb;clear hb;have hst:=ab2 hR Hlf.o;go_enter func37,ntmps37;go_wp2_with fail;refine hgd.mono ?_;rintro ee w1 ⟨v,rfl,rfl,rfl⟩;clear hgd;go_wp2_with fail;refine hfd.mono ?_;rintro ee w1 ⟨v,rfl,rfl,rfl⟩;clear hfd;go_wp2_with fail;refine hn.mono ?_;rintro ee w1 ⟨v,rfl,rfl,rfl⟩;clear hn;go_wp2_with fail;refine hst.mono ?_;clear hst;rintro ee w2 ⟨v,rfl,rfl,hS⟩;clear hR e7 c1;have hin2:sG D.step.1 fv (.slice na D.now.length nc) xs g:=⟨by rw [MB];exact aA.o.files,aA.o.ok,by rw [acN];exact aA.o.fast,by rw [Ug];exact aA.o.now⟩;have Fz:=uQ hin2;clear hin2;cases ht:D.step.2 with
     |false=>
      have Ha:=uQ (show D.create s=(D.step.1,12) by unfold ak.create;rw [abL Ho.o,abL Hg.o,abL Hk.o,abL Hb.o,adU ht]);clear ht;rw [<-MC]at hS;go_wp2;go_ret;exact ⟨_,rfl,by rw [Ha.o];rfl,by rw [Ha.o];exact fH.shut Fz.o hS⟩
     |true=>
      have Ha:=uQ (show D.create s=({ D.step.1 with files:=D.files++[aX.new] }.link ⟨ByteArray.empty,s,D.files.length⟩,0) by unfold ak.create;rw [abL Ho.o,abL Hg.o,abL Hk.o,abL Hb.o,abL (by rw [ht];decide)]);clear ht Ho Hg Hk Hb;have DC:=uQ (show D.step.1.now.length<=1048575 by rw [Ug];exact Hl.o);have Hw1:=uQ (show D.step.1.waits.length<=1048576 by rw [MC];exact Hw.o);have Jk:=uQ (show xs.length=D.files.length by rw [<-aA.o.files,abl]);have hfs:=nJ.o;have hlx:=Jk.o;rw [<-MC]at hS;obtain ⟨fa,fn,fc,rfl,hfn,_⟩:=Sat.rd (hS.pick aT);rw [yJ]at hfn;obtain rfl:fn=xs.length:=by omega
      have hlen:(iR xs).length<=2147483648:=by rw [yJ];omega
      have hw1:IntKind.i64.wrap (xs.length:Int)=(xs.length:Int):=acO _ oQ;have hw2:IntKind.i64.wrap (((xs.length+1:Nat):Int)-1)=(xs.length:Int):=by rw [show ((xs.length+1:Nat):Int)-1=(xs.length:Int) by omega];exact hw1
      clear hfn hfs hlx;generalize D.step.1=D1 at *
      go_wp2_with (first
       |((with_reducible refine bC ⟨?_⟩);refine eY aQ ah bK bG ay au ?_)
       |((with_reducible refine jh ⟨?_⟩);refine jg (e:=176) (sz:=3) (dF:=72) au hS ah (cs:=#[.slice none 0 0,.slice none 0 0,.slice none 0 0]) rfl rfl bG ?_;intro bN wN hN)
       |((with_reducible refine fZ ⟨?_⟩);refine jF 176 3 72 au hN ah ah (aU (aU aK)) aK ah (ab1 1) ah hlen (by show 3<=65536;decide) aG rfl ?_;intro bA nA cA wA hA;obtain rfl:=afn hA rfl)
       |((with_reducible refine bW ⟨?_⟩);refine jM aQ ah ay pQ gZ bG au ah ?_;intro wS hS))
      have h5:=alk (hS.sub (dA fE (dA aT (dA aK (dA aK (dA aK iY))))));rw [show iR xs++[Value.slice none 0 0,.slice none 0 0,.slice none 0 0]=iR (xs++[RF.zero]) by unfold iR;rw [aeB];rfl]at h5;have h6:=fH.shut (D:={ D1 with files:=D.files++[aX.new] }) (xs:=xs++[RF.zero]) (fv:=fv) ⟨by rw [aef,aA.o.files];rfl,(λx hx=>by rcases aeQ.1 hx with hx|hx;exact aA.o.ok x hx;rw [aeG.1 hx];rfl),Fz.o.fast,Fz.o.now⟩ (h5.sub (dA aT (dA aT (dA aK (dA aK (dA aK iY))))));refine (amn (D:={ D1 with files:=D.files++[aX.new] }) ⟨ByteArray.empty,s,xs.length⟩ DC.o Hw1.o h6).mono ?_;rintro ee w5 ⟨v,rfl,h7⟩;clear hS hN hA h5 h6 hw1 hw2;go_wp2;go_ret;exact ⟨_,rfl,by rw [Ha.o];rfl,by rw [Ha.o,<-Jk.o];exact h7⟩
end
end Go.Proofs.Y
namespace Go.ak
theorem Np (l:Bs) (i:Nat) (y:UInt8):(jv l i y).length=l.length:=by unfold jv;simp
def Alike (c d:gX):Prop:=d.cut=c.cut/\d.n=c.n/\d.b.length=c.b.length
theorem akc {c d:gX} (h:Alike c d){l l':Bs} (hl:l'.length=l.length):(d.on l').length=(c.on l).length:=by
 obtain ⟨h1,h2,h3⟩:=h;unfold gX.on;rw [h1];split
 ·simp [h2,hl]
 ·simp [h3,hl]
theorem at_len {f g:aX} (h0:g.fast.length=f.fast.length) (hw:g.waits.length=f.waits.length)
  (hc:∀ (k:Nat) (c d:gX),f.waits[k]?=some c->g.waits[k]?=some d->Alike c d):∀ k,k<=f.waits.length->(g.at k).length=(f.at k).length:=by
 intro k
 induction k with
 |zero=>intro _;exact h0
 |succ k ih=>
  intro hk;have h1:f.waits[k]?=some (f.waits[k]'oQ):=aaJ _;have h2:g.waits[k]?=some (g.waits[k]'oQ):=aaJ _;rw [f.y9 k _ h1,g.y9 k _ h2];exact akc (hc k _ _ h1 h2) (ih oQ)
theorem aod {l:Bs}{i:Nat} (y:UInt8) (b:Bs) (h:i<l.length):jv (l++b) i y=jv l i y++b:=by
 unfold jv;rw [List.set_append_left _ _ h,adV,aek h,adV]
theorem aoe {l:Bs}{i:Nat} (y:UInt8) (b:Bs) (h:l.length<=i):jv (l++b) i y=l++jv b (i-l.length) y:=by
 unfold jv;rw [List.set_append_right _ _ h,adV,aew h,adV]
theorem aof (l:Bs) (i n:Nat) (y:UInt8):(jv l i y).take n=jv (l.take n) i y:=by
 unfold jv;rw [List.take_set];by_cases h:i<n
 ·rw [adV,adV,List.getElem?_take_of_lt h]
 ·rw [List.set_eq_of_length_le yT0,List.set_eq_of_length_le yT0]
theorem akd (c:gX) (l:Bs) (i:Nat) (y:UInt8) (h:c.cut=true\/i<l.length):c.on (jv l i y)=jv (c.on l) i y:=by
 unfold gX.on;cases hc:c.cut
 ·simp only [aip,ao7];rcases h with h|h
  ·rw [hc]at h;cases h
  ·exact (aod y c.b h).symm
 ·simp only [apc];exact aof l i c.n y
def Past (f:aX) (i k n:Nat):Prop:=∀ (j:Nat) (c:gX),k<=j->j<n->f.waits[j]?=some c->c.cut=true\/i<(f.at j).length
theorem WG {f g:aX}{i k:Nat}{y:UInt8} (h0:g.at k=jv (f.at k) i y) (hw:∀ j,k<=j->g.waits[j]?=f.waits[j]?) (hp:Past f i k f.waits.length) :
  ∀ j,k<=j->j<=f.waits.length->g.at j=jv (f.at j) i y:=by
 intro j hj
 induction hj with
 |refl=>intro _;exact h0
 |@step j hk ih=>
  intro hl;have h1:f.waits[j]?=some (f.waits[j]'oQ):=aaJ _;have h2:g.waits[j]?=some (f.waits[j]'oQ):=by rw [hw j hk];exact h1
  rw [f.y9 j _ h1,g.y9 j _ h2,ih oQ];exact akd _ _ _ _ (hp j _ hk oQ h1)
theorem Tm (f:aX) (i:Nat) (y:UInt8):∀ n,n<=f.waits.length ->
  (zY f i y n=none/\Past f i 0 n) \/
  ∃ (k:Nat) (c:gX),k<n/\f.waits[k]?=some c/\c.cut=false/\(f.at k).length<=i/\zY f i y n=some (f.waits.set k { c with b:=jv c.b (i-(f.at k).length) y })/\Past f i (k+1) n
 |0,_=> .inl ⟨rfl,λj c _ h=>by omega⟩
 |n+1,hn=>by
  have h1:f.waits[n]?=some (f.waits[n]'oQ):=aaJ _;generalize f.waits[n]'oQ=c at h1;have step:(c.cut=true\/i<(f.at n).length)->zY f i y (n+1)=zY f i y n:=by
   intro h;show (match f.waits[n]? with|none=>_|some c=>_)=_;rw [h1];simp only;rcases h with h|h
   ·rw [adU h]
   ·split
    ·rfl
    ·rw [abL oQ]
  have past:∀ k,(c.cut=true\/i<(f.at n).length)->Past f i k n->Past f i k (n+1):=by
   intro k h hp j d hk hj hd;rcases aiN j n with hlt|hge
   ·exact hp j d hk hlt hd
   ·obtain rfl:j=n:=by omega
    rw [h1]at hd;cases hd;exact h
  by_cases h:c.cut=true\/i<(f.at n).length
  ·rcases Tm f i y n oQ with ⟨h2,h3⟩|⟨k,d,h2,h3,h4,h5,h6,h7⟩
   ·exact .inl ⟨(step h).trans h2,past 0 h h3⟩
   ·exact .inr ⟨k,d,by omega,h3,h4,h5,(step h).trans h6,past _ h h7⟩
  ·have hc:c.cut=false:=by cases hcc:c.cut;rfl;exact absurd (.inl hcc) h
   have hl:(f.at n).length<=i:=Nat.le_of_not_lt λh'=>h (.inr h');refine .inr ⟨n,c,by omega,h1,hc,hl,?_,λj d hk hj=>by omega⟩;show (match f.waits[n]? with|none=>_|some c=>_)=_;rw [h1];simp only [hc,aip,ao7];rw [adU hl]
theorem abU {f g:aX}{K:Nat} (h:f.Ok K) (h0:g.fast.length=f.fast.length) (hw:g.waits.length=f.waits.length)
  (hc:∀ (k:Nat) (c d:gX),f.waits[k]?=some c->g.waits[k]?=some d->Alike c d) (hn:g.now=g.at f.waits.length):g.Ok K:=by
 have hl:=at_len h0 hw hc;refine ⟨by rw [hw];exact hn,?_,?_,by rw [hw];exact h.budget⟩
 ·intro k d hk hd;have hlt:k<g.waits.length:=(acZ.1 hk).1;obtain ⟨c,hcc⟩:∃ c,f.waits[k]?=some c:=⟨f.waits[k]'oQ,aaJ _⟩;obtain ⟨a1,a2,a3⟩:=hc k c d hcc hk;rw [hl k oQ,a2];exact h.cuts k c hcc (by rw [<-a1];exact hd)
 ·intro k hk;rw [hl k oQ];exact h.size k oQ
theorem aX.Ok.jE {f:aX}{K:Nat} (h:f.Ok K) (i:Nat) (y:UInt8):(f.jE i y).Ok K/\(f.jE i y).now=jv f.now i y:=by
 rcases Tm f i y f.waits.length (ab1 _) with ⟨h1,h2⟩|⟨k,c,hk,hc,hcut,hlen,h1,h2⟩
 ·have e:f.jE i y={ f with now:=jv f.now i y,fast:=jv f.fast i y }:=by unfold aX.jE;rw [h1]
  rw [e];refine ⟨abU h (Np _ _ _) rfl (λk c d h3 h4=>?_) ?_,rfl⟩
  ·rw [h3]at h4;cases h4;exact ⟨rfl,rfl,rfl⟩
  ·have:=WG (f:=f) (g:={ f with now:=jv f.now i y,fast:=jv f.fast i y }) (i:=i) (k:=0) (y:=y) rfl (λj _=>rfl) h2 f.waits.length (ad4 _) (ab1 _);rw [this,<-h.now]
 ·have e:f.jE i y={ f with now:=jv f.now i y,waits:=f.waits.set k { c with b:=jv c.b (i-(f.at k).length) y } }:=by unfold aX.jE;rw [h1]
  rw [e];have hset:(f.waits.set k { c with b:=jv c.b (i-(f.at k).length) y })[k]?=some { c with b:=jv c.b (i-(f.at k).length) y }:=by rw [apv hk]
  refine ⟨abU h rfl yF0 (λj c' d h3 h4=>?_) ?_,rfl⟩
  ·simp only at h4;by_cases hj:k=j
   ·subst hj;rw [hset]at h4;rw [hc]at h3;cases h3;cases h4;exact ⟨rfl,rfl,Np _ _ _⟩
   ·rw [apE hj,h3]at h4;cases h4;exact ⟨rfl,rfl,rfl⟩
  ·generalize hg:({ f with now:=jv f.now i y,waits:=f.waits.set k { c with b:=jv c.b (i-(f.at k).length) y } }:aX)=g;have hgw:g.waits=f.waits.set k { c with b:=jv c.b (i-(f.at k).length) y }:=by rw [<-hg]
   have hgf:g.fast=f.fast:=by rw [<-hg]
   have hgn:g.now=jv f.now i y:=by rw [<-hg]
   have hk0:g.at k=f.at k:=by unfold aX.at;rw [hgw,hgf,List.take_set_of_le (ab1 _)]
   have hk1:g.at (k+1)=jv (f.at (k+1)) i y:=by
    rw [g.y9 k _ (by rw [hgw];exact hset),hk0,f.y9 k c hc];unfold gX.on;simp only [hcut,aip,ao7];rw [aoe y c.b hlen]
   have:=WG hk1 (λj hj=>by rw [hgw,apE oQ]) h2 f.waits.length hk (ab1 _);rw [this,hgn,<-h.now]
theorem ak.Ok.jE {M:ak}{K:Nat} (h:M.Ok K) (s:ByteArray) (i:Int) (y:UInt8):(M.jE s i y).1.Ok (K+1):=by
 unfold ak.jE;split
 ·exact h.mono (aiL _)
 ·split
  ·exact h.mono (aiL _)
  ·exact h.eP _ _ (((h.file _).jE _ _).1.mono (aiL _))
end Go.ak
