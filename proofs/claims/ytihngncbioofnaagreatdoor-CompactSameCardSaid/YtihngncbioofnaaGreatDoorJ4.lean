import Derived.Test.YtihngncbioofnaaGreatDoorJ3
open Go.Proofs.Tryz
set_option maxRecDepth 20000
open Go Go.Sl Go.MapKept Go.RowKit
open Go.Proofs.YtihngncbioofnaaGreatDoor
variable {w0 w:World}{R F L L':List aG}{v lv bv dv Yq fv nv wv:Value}{K b q p m d sz n c k:Nat}{P:Program}{ops:Array Oper}{a:Act}{Q:Exit->Act->World->Prop}{dst:Option Tmp}{after:Array Edge}{x y:Operand}{s:Int×Int}{rest:List Oper}{T t ty:TypeId}{cs:Array Value}{E:Prop}{α:Type}{f:α->List Value}
theorem yI0{p:Prop} (h:p:=by first|assumption|exact Ro.op (Ro.bQ _ _)|exact Ro.os aQ):p:=h
theorem yK0{p:Prop} (h:p:=by rw [ace];exact hj):p:=h
namespace Go.Proofs.Y
open Go.ay
theorem sQ {p : Prop} (h : p := by first | assumption | exact fF _ _ rfl | exact fF _ _ aQ | exact fF _ _ (apJ aQ)) : p := h
theorem pQ {p : Prop} (h : p := by first | (simp only [eU, Value.cells]; (try go_frame); first | done | rfl) | rfl) : p := h
theorem gQ {p : Prop} (h : p := by go_frame; first | done | rfl) : p := h
theorem fQ {p : Prop} (h : p := by first | rfl | assumption | exact apJ aQ) : p := h
theorem wQ {p : Prop} (h : p := by with_reducible rfl) : p := h
end Go.Proofs.Y
set_option linter.unusedVariables false
set_option linter.unusedSimpArgs false
set_option maxHeartbeats 128000000
namespace Go.Rep
open Go.aj (Bs dD)
open Go.Seg (aV)
open Go.Tab (put)
abbrev Row:=Int×dD
def fU (r:Row):Bs:=r.2.e.key
def dM (r:Row):Int:=r.2.e.tag
def iP (r:Row):aV:=⟨r.1,r.2.at_,r.2.size⟩
structure dY where
 tag:Int
 place:aV
 first:Int
def newest:List Row->Bs->Option Row
 |[],_=>none
 |r::l,k=>match newest l k with
  |some x=>some x
  |none=>if dM r≠2/\fU r=k then some r else none
def oG:List Row->Bs->Option Row
 |[],_=>none
 |r::l,k=>if dM r=0/\fU r=k then some r else oG l k
def first (l:List Row) (k:Bs):Int:=match oG l k with
 |some r=>r.1
 |none=> -1
def ledger (l:List Row) (k:Bs):Option dY:=(newest l k).map λr=>⟨dM r,iP r,first l k⟩
def Af (m:Bs->Option dY) (r:Row):Int:=match m (fU r) with
 |some a=>a.first
 |none=> -1
def oN (m:Bs->Option dY) (r:Row):Int:=if dM r=0/\Af m r<0 then r.1 else Af m r
def Gw (m:Bs->Option dY) (r:Row):Bs->Option dY:=
 if dM r=2 then m else put m (fU r) ⟨dM r,iP r,oN m r⟩
theorem CX (l:List Row) (r:Row) (k:Bs):newest (l++[r]) k=if dM r≠2/\fU r=k then some r else newest l k:=by
 induction l with
 |nil=>simp only [aeu,newest]
 |cons x l ih=>
  simp only [aeI,newest,ih];split
  ·rename_i h;split at h
   ·rename_i h2;rw [acg h2];cases h;rfl
   ·rename_i h2;rw [abj h2,h]
  ·rename_i h;split at h
   ·cases h
   ·rename_i h2;rw [abj h2,h]
theorem O4 (l:List Row) (r:Row) (k:Bs):oG (l++[r]) k=match oG l k with
  |some x=>some x
  |none=>if dM r=0/\fU r=k then some r else none:=by
 induction l with
 |nil=>simp only [aeu,oG]
 |cons x l ih=>
  simp only [aeI,oG,ih];split
  ·rename_i h;simp only
  ·rfl
theorem aj9 {l:List Row}{k:Bs} (h:newest l k=none):oG l k=none:=by
 induction l with
 |nil=>rfl
 |cons x l ih=>
  simp only [newest]at h;split at h
  ·cases h
  ·rename_i h1;split at h
   ·cases h
   ·rename_i h2;simp only [oG];rw [abj λh3=>h2 ⟨by rw [h3.1];decide,h3.2⟩];exact ih h1
theorem Yb {l:List Row}{k:Bs}{r:Row} (h:oG l k=some r):r∈l/\dM r=0/\fU r=k:=by
 induction l with
 |nil=>cases h
 |cons x l ih=>
  simp only [oG]at h;split at h
  ·cases h;exact ⟨.head _,by assumption⟩
  ·exact ⟨.tail _ (ih h).1,(ih h).2⟩
theorem ajz (l:List Row) (r:Row) (h0:∀ x∈l,0<=x.1):ledger (l++[r])=Gw (ledger l) r:=by
 funext k
 unfold Gw;by_cases h2:dM r=2
 ·rw [acg h2];unfold ledger first
  rw [CX,abj (λh=>h.1 h2),O4];cases oG l k with
  |some x=>rfl
  |none=>simp only;rw [abj (λh=>by rw [h2]at h;exact absurd h.1 aN)]
 ·rw [abj h2];unfold put;by_cases hk:k=fU r
  ·subst hk;rw [acg rfl];have e1:∀ k,ledger l k=(newest l k).map λr=>⟨dM r,iP r,first l k⟩:=λ_=>rfl;have e2:ledger (l++[r]) (fU r)=some ⟨dM r,iP r,first (l++[r]) (fU r)⟩:=by
    unfold ledger;rw [CX,acg ⟨h2,rfl⟩,afW]
   rw [e2]
   congr 2
   unfold oN Af;rw [e1];unfold first
   rw [O4];cases hn:newest l (fU r) with
   |none=>
    rw [aj9 hn];simp only [aoC];by_cases ht:dM r=0
    ·rw [acg ⟨ht,trivial⟩,acg ⟨ht,by decide⟩]
    ·rw [abj (λh=>ht h.1),abj (λh=>ht h.1)]
   |some x=>
    simp only [afW];cases hf:oG l (fU r) with
    |some y=>
     simp only;rw [abj (λh=>by have:=h0 y (Yb hf).1;omega)]
    |none=>
     simp only;by_cases ht:dM r=0
     ·rw [acg ⟨ht,trivial⟩,acg ⟨ht,by decide⟩]
     ·rw [abj (λh=>ht h.1),abj (λh=>ht h.1)]
  ·rw [abj hk];unfold ledger first
   rw [CX,abj (λh=>hk h.2.symm),O4];cases oG l k with
   |some x=>rfl
   |none=>simp only;rw [abj (λh=>hk h.2.symm)]
def counts (a:dY):Bool:=decide (a.tag=0) || (decide (0<=a.first) && decide (a.first<a.place.seg))
def nU (l:List Row) (i:Nat):Bool:=match l[i]? with
 |none=>false
 |some r=>decide (dM r<2) && (l.drop (i+1)).all λx => !(decide (dM x<2) && decide (fU x=fU r))
def cnt (l:List Row) (i:Nat):Bool:=match l[i]? with
 |none=>false
 |some r => !decide (dM r=2) && nU l i && (decide (dM r=0) || (l.take i).any λx=>decide (dM x=0) && decide (fU x=fU r) && decide (x.1<r.1))
structure Rows (l:List Row):Prop where
 tag:∀ r∈l,dM r=0\/dM r=1\/dM r=2
 seg:∀ r∈l,0<=r.1
 rise:l.Pairwise λa b=>a.1<=b.1
theorem aaC {l:List Row}{k:Bs} (ht:∀ r∈l,dM r=0\/dM r=1\/dM r=2):newest l k=none↔(l.all λx => !(decide (dM x<2) && decide (fU x=k)))=true:=by
 induction l with
 |nil=>exact ⟨λ_=>rfl,λ_=>rfl⟩
 |cons y l ih=>
  rw [aql,aev,<-ih (λr h=>ht r (.tail _ h))];have hy:=ht y (.head _);simp only [newest];cases hn:newest l k with
  |some x=>simp
  |none=>
   simp only [and_true];by_cases hc:dM y≠2/\fU y=k
   ·rw [acg hc];have:dM y<2:=oQ;simp [this,hc.2]
   ·rw [abj hc];simp only [true_iff,aqf,Bool.and_eq_false_iff,ae1];by_cases h2:dM y<2
    ·exact .inr λh=>hc ⟨by omega,h⟩
    ·exact .inl h2
theorem aaG:∀ {l:List Row}{i:Nat}{r:Row},(∀ r∈l,dM r=0\/dM r=1\/dM r=2)->l[i]?=some r->nU l i=true->newest l (fU r)=some r
 |[],_,_,_,hi,_=>by simp at hi
 |x::l,0,r,ht,hi,hn=>by
  obtain rfl:x=r:=by simpa using hi
  unfold nU at hn;rw [hi]at hn;simp only [aev,adY]at hn;have h2:newest l (fU x)=none:=(aaC λr h=>ht r (.tail _ h)).2 hn.2;have:=hn.1;simp only [newest,h2];rw [acg ⟨by omega,trivial⟩]
 |x::l,i+1,r,ht,hi,hn=>by
  have hi':l[i]?=some r:=by simpa using hi
  have hn':nU l i=true:=by
   unfold nU at hn ⊢;rw [hi]at hn;rw [hi'];exact hn
  simp only [newest,aaG (λr h=>ht r (.tail _ h)) hi' hn']
theorem aaH:∀ {l:List Row}{k:Bs}{r:Row},(∀ r∈l,dM r=0\/dM r=1\/dM r=2)->newest l k=some r->∃ i,l[i]?=some r/\nU l i=true/\fU r=k/\dM r≠2
 |[],_,_,_,h=>by cases h
 |x::l,k,r,ht,h=>by
  simp only [newest]at h;cases hn:newest l k with
  |some y=>
   rw [hn]at h;obtain rfl:y=r:=by simpa using h
   obtain ⟨i,a,b,c,d⟩:=aaH (λr h=>ht r (.tail _ h)) hn;refine ⟨i+1,by simpa using a,?_,c,d⟩;unfold nU at b ⊢;rw [a]at b;rw [show (x::l)[i+1]?=some y by simpa using a];exact b
  |none=>
   rw [hn]at h;simp only at h;split at h
   ·rename_i hc;obtain rfl:x=r:=by simpa using h
    refine ⟨0,rfl,?_,hc.2,hc.1⟩;have hx:=ht x (.head _);unfold nU;simp only [List.getElem?_cons_zero,ad8,List.drop_one,List.tail_cons,aev,adY];refine ⟨by omega,?_⟩;rw [<-aaC λr h=>ht r (.tail _ h),hc.2];exact hn
   ·cases h
theorem Ya:∀ {l:List Row}{k:Bs}{r x:Row},l.Pairwise (λa b=>a.1<=b.1)->oG l k=some r->x∈l->dM x=0->fU x=k->r.1<=x.1
 |[],_,_,_,_,h,_,_,_=>by cases h
 |y::l,k,r,x,hp,h,hx,h0,hk=>by
  obtain ⟨p1,p2⟩:=aeZ.1 hp;simp only [oG]at h;split at h
  ·obtain rfl:y=r:=by simpa using h
   rcases ad5.1 hx with rfl|hx
   ·exact aoZ _
   ·exact p1 x hx
  ·rename_i hc;rcases ad5.1 hx with rfl|hx
   ·exact absurd ⟨h0,hk⟩ hc
   ·exact Ya p2 h hx h0 hk
theorem aho {l:List Row}{k:Bs} (h:oG l k=none):∀ x∈l,¬ (dM x=0/\fU x=k):=by
 induction l with
 |nil=>intro x hx;cases hx
 |cons y l ih=>
  simp only [oG]at h;split at h
  ·cases h
  ·rename_i hc;intro x hx;rcases ad5.1 hx with rfl|hx
   ·exact hc
   ·exact ih h x hx
theorem Xa {l:List Row}{i:Nat}{r:Row} (hl:Rows l) (hi:l[i]?=some r) (hn:nU l i=true):∃ a,ledger l (fU r)=some a/\a.tag=dM r/\a.place=iP r/\counts a=cnt l i:=by
 have h1:=aaG hl.tag hi hn;refine ⟨⟨dM r,iP r,first l (fU r)⟩,by unfold ledger;rw [h1];rfl,rfl,rfl,?_⟩;have hmem:=abA hi;have h2:dM r≠2:=by
  unfold nU at hn;rw [hi]at hn;simp only [aev,adY]at hn;have:=hn.1;omega
 unfold cnt;rw [hi];simp only [hn,h2,decide_false,Bool.not_false,apV];unfold counts;simp only;by_cases h0:dM r=0
 ·simp [h0]
 ·simp only [h0,decide_false,Bool.false_or];rw [aol];simp only [aev,adY,List.any_eq_true];unfold first iP
  simp only;cases hf:oG l (fU r) with
  |none=>
   simp only;constructor
   ·intro h;omega
   ·rintro ⟨x,hx,⟨h3,h4⟩,_⟩;exact absurd ⟨h3,h4⟩ (aho hf x (aeP hx))
  |some y=>
   obtain ⟨m1,m2,m3⟩:=Yb hf;simp only;constructor
   ·rintro ⟨_,h5⟩;obtain ⟨j,hj,he⟩:=aoY m1;have hij:j<i:=by
     rcases aqg j i with q|q|q
     ·exact q
     ·subst q;rw [aay hj,he]at hi;cases hi;exact absurd m2 h0
     ·obtain ⟨hi',he'⟩:=abm.1 hi;have:=aoj.1 hl.rise i j hi' hj q;rw [he,he']at this;omega
    refine ⟨y,?_,⟨m2,m3⟩,h5⟩;rw [List.mem_take_iff_getElem];exact ⟨j,by omega,he⟩
   ·rintro ⟨x,hx,⟨h3,h4⟩,h5⟩;have:=Ya hl.rise hf (aeP hx) h3 h4;exact ⟨hl.seg y m1,by omega⟩
theorem agd {l:List Row}{i:Nat} (h:cnt l i=true):nU l i=true:=by
 unfold cnt at h;split at h
 ·cases h
 ·simp only [aev]at h;exact h.1.2
end Go.Rep
namespace Go.Tab
open Go.aj (Bs)
theorem Ja (a b:Bs):a<b\/a=b\/b<a:=by
 by_cases h1:a<b
 ·exact .inl h1
 ·rcases List.le_iff_lt_or_eq.1 (List.not_lt.1 h1) with h2|h2
  ·exact .inr (.inr h2)
  ·exact .inr (.inl h2.symm)
structure Lists {V:Type} (m:Bs->Option V) (l:List (Bs×V)):Prop where
 rise:l.Pairwise λa b=>a.1<b.1
 mem:∀ k v,(k,v)∈l↔m k=some v
theorem abS {V:Type}:∀ {l l':List (Bs×V)},l.Pairwise (λa b=>a.1<b.1)->l'.Pairwise (λa b=>a.1<b.1)->(∀ p,p∈l↔p∈l')->l=l'
 |[],[],_,_,_=>rfl
 |[],b::l',_,_,h=>by have:=(h b).2 (.head _);cases this
 |a::l,[],_,_,h=>by have:=(h a).1 (.head _);cases this
 |a::l,b::l',h1,h2,h=>by
  obtain ⟨a1,a2⟩:=aeZ.1 h1;obtain ⟨b1,b2⟩:=aeZ.1 h2;have hab:a=b:=by
   rcases ad5.1 ((h a).1 (.head _)) with e|h3
   ·exact e
   ·rcases ad5.1 ((h b).2 (.head _)) with e|h4
    ·exact e.symm
    ·exact absurd (aqk (b1 a h3) (a1 b h4)) (apL _)
  subst hab
  congr 1
  refine abS a2 b2 λp=>?_;have:=h p;rw [ad5,ad5]at this;constructor
  ·intro hp;rcases this.1 (.inr hp) with e|h3
   ·subst e;exact absurd (a1 p hp) (apL _)
   ·exact h3
  ·intro hp;rcases this.2 (.inr hp) with e|h3
   ·subst e;exact absurd (b1 p hp) (apL _)
   ·exact h3
theorem Lists.unique {V:Type}{m:Bs->Option V}{l l':List (Bs×V)} (h:Lists m l) (h':Lists m l'):l=l':=
 abS h.rise h'.rise λp=>by rw [h.mem p.1 p.2,h'.mem p.1 p.2]
theorem Lists.keys {V:Type}{m:Bs->Option V}{l:List (Bs×V)} (h:Lists m l):(l.map (·.1)).Nodup:=by
 rw [List.nodup_iff_pairwise_ne,ajM];exact h.rise.imp λ{a b} hab e=>by rw [e]at hab;exact apL _ hab
def ins {V:Type}:List (Bs×V)->Bs×V->List (Bs×V)
 |[],x=>[x]
 |y::l,x=>if x.1<y.1 then x::y::l else y::ins l x
end Go.Tab
namespace Go.Rep
open Go.aj (Bs dD)
open Go.Seg (aV)
open Go.Tab
def idx (l:List Row):Nat->List (Bs×aV)
 |0=>[]
 |i+1=>match l[i]? with
  |none=>idx l i
  |some r=>if cnt l i=true/\dM r=0 then ins (idx l i) (fU r,iP r) else idx l i
def live (l:List Row) (s:Int):Nat->Int
 |0=>0
 |i+1=>match l[i]? with
  |none=>live l s i
  |some r=>if cnt l i=true/\r.1=s then live l s i+r.2.size else live l s i
def gZ (s:Int):List (Bs×dY)->Int
 |[]=>0
 |p::l=>(if counts p.2=true/\p.2.place.seg=s then p.2.place.size else 0)+gZ s l
def puts (kv:List (Bs×dY)):List (Bs×aV):=(kv.filter λp=>decide (p.2.tag=0)).map λp=>(p.1,p.2.place)
theorem aj6 {l:List Row}{i j:Nat}{r x:Row} (hi:l[i]?=some r) (hj:l[j]?=some x) (h1:nU l i=true) (h2:nU l j=true) (hk:fU r=fU x):i=j:=by
 have aux:∀ {i j:Nat} {r x:Row},l[i]?=some r->l[j]?=some x->nU l i=true->nU l j=true->fU r=fU x->¬ i<j:=by
  intro i j r x hi hj h1 h2 hk hlt;unfold nU at h1 h2;rw [hi]at h1;rw [hj]at h2;simp only [aev,adY,ae0]at h1 h2;have hm:x∈l.drop (i+1):=by
   refine abA (i:=j-(i+1)) ?_;rw [ao5,show i+1+(j-(i+1))=j by omega];exact hj
  have:=h1.2 x hm;simp [h2.1,hk]at this
 rcases aqg i j with q|q|q
 ·exact absurd q (aux hi hj h1 h2 hk)
 ·exact q
 ·exact absurd q (aux hj hi h2 h1 hk.symm)
def vF (l:List Row):Nat->List Bs
 |0=>[]
 |i+1=>match l[i]? with
  |none=>vF l i
  |some r=>if nU l i=true then fU r::vF l i else vF l i
theorem QL {l:List Row}:∀ {n:Nat}{k:Bs},k∈vF l n↔∃ i r,i<n/\l[i]?=some r/\nU l i=true/\fU r=k
 |0,k=>by simp [vF]
 |n+1,k=>by
  have ih:=@QL l n k;unfold vF;constructor
  ·intro h;split at h
   ·obtain ⟨i,r,a,b⟩:=ih.1 h;exact ⟨i,r,by omega,b⟩
   ·rename_i r hr;split at h
    ·rename_i hc;rcases ad5.1 h with e|h
     ·exact ⟨n,r,by omega,hr,hc,e.symm⟩
     ·obtain ⟨i,r,a,b⟩:=ih.1 h;exact ⟨i,r,by omega,b⟩
    ·obtain ⟨i,r,a,b⟩:=ih.1 h;exact ⟨i,r,by omega,b⟩
  ·rintro ⟨i,r,hi,hr,hc,rfl⟩;by_cases hin:i<n
   ·have:=ih.2 ⟨i,r,hin,hr,hc,rfl⟩;split
    ·exact this
    ·split
     ·exact .tail _ this
     ·exact this
   ·obtain rfl:i=n:=by omega
    rw [hr];simp only;rw [acg hc];exact .head _
theorem J8 {l:List Row}:∀ n,(vF l n).Nodup
 |0=>List.nodup_nil
 |n+1=>by
  unfold vF;split
  ·exact J8 n
  ·rename_i r hr;split
   ·rename_i hc;refine akZ.2 ⟨λh=>?_,J8 n⟩;obtain ⟨i,x,a,b,c,d⟩:=QL.1 h;have:=aj6 b hr c hc d;omega
   ·exact J8 n
def adds (l:List Row) (s:Int) (k:Bs):Int:=match ledger l k with
 |some a=>if counts a=true/\a.place.seg=s then a.place.size else 0
 |none=>0
theorem anB {f:Bs->Int}{l l':List Bs} (h:l.Perm l'):(l.map f).sum=(l'.map f).sum:=by
 induction h with
 |nil=>rfl
 |cons x _ ih=>simp only [ad7,ap6,ih]
 |swap x y l=>simp only [ad7,ap6];omega
 |trans _ _ h1 h2=>rw [h1,h2]
theorem aal {l:List Row} (hl:Rows l) (s:Int):∀ n,live l s n=((vF l n).map (adds l s)).sum
 |0=>rfl
 |n+1=>by
  have ih:=aal hl s n;unfold live vF;split
  ·rename_i hr;rw [ih]
  ·rename_i r hr;by_cases hn:nU l n=true
   ·obtain ⟨a,h1,h2,h3,h4⟩:=Xa hl hr hn;rw [acg hn,ad7,ap6,ih];unfold adds;rw [h1];simp only;rw [h4,h3,show (iP r).seg=r.1 from rfl,show (iP r).size=(r.2.size:Int) from rfl];split
    ·exact Int.add_comm _ _
    ·exact (Int.zero_add _).symm
   ·rw [abj hn,abj (λh=>hn (agd h.1)),ih]
theorem aai {l:List Row} (s:Int):∀ (kv:List (Bs×dY)),(∀ p∈kv,ledger l p.1=some p.2)->gZ s kv=((kv.map (·.1)).map (adds l s)).sum
 |[],_=>rfl
 |p::kv,h=>by
  rw [ad7,ad7,ap6,<-aai s kv λq hq=>h q (.tail _ hq)];unfold adds;rw [h p (.head _)]
  rfl
theorem aak {l:List Row} (hl:Rows l){kv:List (Bs×dY)} (hk:Lists (ledger l) kv) (s:Int):live l s l.length=gZ s kv:=by
 rw [aal hl,aai s kv λp hp=>(hk.mem p.1 p.2).1 hp];refine anB ((List.perm_ext_iff_of_nodup (J8 _) hk.keys).2 λk=>?_);rw [QL,abL];constructor
 ·rintro ⟨i,r,_,hr,hn,rfl⟩;obtain ⟨a,h1,_⟩:=Xa hl hr hn;exact ⟨(fU r,a),(hk.mem _ _).2 h1,rfl⟩
 ·rintro ⟨⟨k',a⟩,hp,rfl⟩;have h3:=(hk.mem _ _).1 hp;unfold ledger at h3;cases hn:newest l k' with
  |none=>rw [hn]at h3;cases h3
  |some r=>
   obtain ⟨i,a,b,c,_⟩:=aaH hl.tag hn;exact ⟨i,r,(abm.1 a).1,a,b,c⟩
end Go.Rep
namespace Go.Proofs.Y
open Go.ay
section
variable {pos:String}{z:Operand}{o:Nat}
variable {vx vy:Value}{ad:Addr}{fl:Nat}{bo:BinOp}{uo:UnOp}{tz:TypeId}{G:World->Prop}
theorem iU {g:Option (Nat×Bool)} (hw:Region.wanted ⟨dst,.move x,t,pos,after,g⟩ (yielded ops a.tmps)=true) (hx:a.eval x=v):Yields P ops ⟨dst,.move x,t,pos,after,g⟩ v a:=
 .inl ⟨hw,λw=>by simp only [execOp,hx];rfl⟩
theorem MF {g:Option (Nat×Bool)} (hw:Region.wanted ⟨dst,.nilCheck x,t,pos,after,g⟩ (yielded ops a.tmps)=true) (hx:a.eval x=.pointer (some ad)):Yields P ops ⟨dst,.nilCheck x,t,pos,after,g⟩ (.pointer (some ad)) a:=
 .inl ⟨hw,λw=>by simp only [execOp,hx];rfl⟩
theorem o8 {g:Option (Nat×Bool)} (hw:Region.wanted ⟨dst,.fieldAddr ty x fl,t,pos,after,g⟩ (yielded ops a.tmps)=true) (hx:a.eval x=vx) (hr:∀ w,(Instr.fieldAt ty vx fl).run P w=.ok v w):Yields P ops ⟨dst,.fieldAddr ty x fl,t,pos,after,g⟩ v a:=
 .inl ⟨hw,λw=>by simp only [execOp,hx,ad1,hr,adu,aek]⟩
theorem rU {g:Option (Nat×Bool)} (hw:Region.wanted ⟨dst,.indexAddr ty x y,t,pos,after,g⟩ (yielded ops a.tmps)=true) (hx:a.eval x=vx) (hy:a.eval y=vy) (hr:∀ w,(Instr.indexAt ty vx vy).run P w=.ok v w):Yields P ops ⟨dst,.indexAddr ty x y,t,pos,after,g⟩ v a:=
 .inl ⟨hw,λw=>by simp only [execOp,hx,hy,ad1,hr,adu,aek]⟩
theorem rO {g:Option (Nat×Bool)} (hw:Region.wanted ⟨dst,.binOp bo ty x y tz,t,pos,after,g⟩ (yielded ops a.tmps)=true) (hx:a.eval x=vx) (hy:a.eval y=vy) (hr:∀ w,((do eqGuard bo ty x y vx vy;binOp bo ty vx vy):Sem Value).run P w=.ok v w):Yields P ops ⟨dst,.binOp bo ty x y tz,t,pos,after,g⟩ v a:=
 .inl ⟨hw,λw=>by simp only [execOp,hx,hy,ad1 (x:=(do eqGuard bo ty x y vx vy;binOp bo ty vx vy)),hr,adu,aek]⟩
theorem aoI {g:Option (Nat×Bool)} (hw:Region.wanted ⟨dst,.unOp uo ty x,t,pos,after,g⟩ (yielded ops a.tmps)=true) (hx:a.eval x=vx) (hr:∀ w,(Op.unary uo vx).run P w=.ok v w):Yields P ops ⟨dst,.unOp uo ty x,t,pos,after,g⟩ v a:=
 .inl ⟨hw,λw=>by simp only [execOp,hx,ad1,hr,adu,aek]⟩
theorem adI {g:Option (Nat×Bool)} (hw:Region.wanted ⟨dst,.call { callee:= .builtin .len,args:=#[x],argTypes:=#[ty] },t,pos,after,g⟩ (yielded ops a.tmps)=true) (hx:a.eval x=vx) (hr:∀ w,(Builtin.len_ #[ty] t #[vx]).run P w=.ok v w):Yields P ops ⟨dst,.call { callee:= .builtin .len,args:=#[x],argTypes:=#[ty] },t,pos,after,g⟩ v a:=
 .inl ⟨hw,λw=>by
  rw [XZ,hx];simp only [ad1,hr,adu,aek]⟩
theorem o7 {g:Option (Nat×Bool)} (hw:Region.wanted ⟨dst,.load ty x,t,pos,after,g⟩ (yielded ops a.tmps)=true) (hx:a.eval x=.pointer (some ad)) (h1:AO P ty=true) (hG:∀ w,G w->w.cell? ad=some v):YieldsIf P ops G ⟨dst,.load ty x,t,pos,after,g⟩ v a:=
 .inl ⟨hw,λw hw=>by
  obtain ⟨b,o,el⟩:=ad;have hc:=hG w hw;simp only [execOp,hx,Instr.loadAt,Instr.sureAddr,ad1,aek,adu,acw h1 hc]⟩
theorem nC {g:Option (Nat×Bool)}{c:Bool} (hw:Region.wanted ⟨dst,.pick x y z,t,pos,after,g⟩ (yielded ops a.tmps)=true) (hx:a.eval x=.bool c) (hv:(if c then a.eval y else a.eval z)=v):Yields P ops ⟨dst,.pick x y z,t,pos,after,g⟩ v a:=
 .inl ⟨hw,λw=>by
  subst hv;simp only [execOp,hx];cases c <;> rfl⟩
theorem anU {g:Option (Nat×Bool)} (ks:List Value) (hw:Region.wanted ⟨dst,.load ty x,t,pos,after,g⟩ (yielded ops a.tmps)=true) (hx:a.eval x=.pointer (some ⟨b,o,none⟩)){d:TypeDesc} (hu:P.underlying ty=some d) (hd:d.isRow=true) (hi:(P.info? ty).map (·.size)=some ks.length) (hG:∀ w,G w->w.rangeAt b o ks) :
  YieldsIf P ops G ⟨dst,.load ty x,t,pos,after,g⟩ (.agg ks.toArray) a:=
 yieldsIf_load_mid hw ty x rfl b o hx ks d hG hu hd hi
theorem EP {g:Option (Nat×Bool)}{f:FuncId}{xs:Array Operand}{ts:Array TypeId}{K:Act->World->Prop}{E:Prop} (vs:List Value) (hw:Region.wanted ⟨dst,.call { callee:= .value (.func f),args:=xs,argTypes:=ts },t,pos,after,g⟩ (yielded ops a.tmps)=true) (hf:goB P f=true) (hv:xs.toList.map a.eval=vs)
  (h:Calls P f vs.toArray w (Upon K Q a dst)):if Region.wanted ⟨dst,.call { callee:= .value (.func f),args:=xs,argTypes:=ts },t,pos,after,g⟩ (yielded ops a.tmps)=true then
   Oper.wp P ⟨dst,.call { callee:= .value (.func f),args:=xs,argTypes:=ts },t,pos,after,g⟩ a w K Q else E:=by
 rw [acg hw];have h0:=yh (P:=P) (ops:=ops) (a:=a) (w:=w) (Q:=Q) (dst:=dst) (t:=t) (pos:=pos) (after:=after) (K:=K) (E:=False) (xs:=xs) (ts:=ts) vs hf hv h;rw [acg (mF _ rfl)]at h0;exact h0
theorem eu {l:Array Bool}{n:Nat}{late:List Nat}{oi:Oper} (i:Nat) (hi:ops.toList[i]?=some oi) (hc:(Region.noSelect ops && Region.free .any ops l i && (Region.ready .any ops l).contains i && xA ops l)=true)
  (hQ:∀ c a w,Q (.panic c) (a.put oi.dst undef) w->Q (.panic c) a w) (hw:Region.wanted oi (yielded ops a.tmps)=false) {a':Act} (ha:a.put oi.dst undef=a')
  (h:jV P ops Q late G n (l.setIfInBounds i true) a' w):jV P ops Q late G (n+1) l a w:=
 RP i hi hc hQ (.inr ⟨hw,rfl⟩) ha h
end
end Go.Proofs.Y
namespace Go.ay
def ay.which (D:ay) (s:ByteArray):Int:=match bU D.now s with
 |none=> -1
 |some i=>(i:Int)
end Go.ay
namespace Go.Proofs.Y
open Go.ay
abbrev ML:=List (Value×Names)
structure RF where
 f:bK
 fv:Value
 nv:Value
 wv:Value
 ws:List (jm×Value)
section
variable {o:Nat}{pos:String}
end
section
variable {D:ay}{xs:List RF}{g:ML}
theorem Ls:∀ (l:List aG) (A:aG),A∈l->∃ G,stars l=star A G
 |B::l,A,h=>by
  rcases ad5.1 h with rfl|h
  ·exact ⟨_,rfl⟩
  ·obtain ⟨G,hG⟩:=Ls l A h;refine ⟨star B G,?_⟩;show star B (stars l)=_;rw [hG,yZ]
end
section
variable {o:Nat}{pos:String}{K:Act->World->Prop}
theorem kQ (hs:Sat w0 w L) (hx:a.eval x=.pointer (some ⟨b,o,none⟩)) (hy:a.eval y=v){cs':Array Value} (hcs:eU cs o v.cells.toList=cs') (u:pW (pt b (.cells cs T (0,0))) (pt b (.cells cs' T (0,0))) L L') (hfit:o+v.cells.size<=cs.size)
  (hi:(P.info? ty).map (·.size)=some v.cells.size) (h1:v.cells.toList.all (·.oneCell')=true)
  (hK:∀ w',Sat w0 w' L'->K (a.put dst undef) w') :
  if Region.wanted ⟨dst,.store ty x y,t,pos,after,none⟩ (yielded ops a.tmps)=true then Oper.wp P ⟨dst,.store ty x y,t,pos,after,none⟩ a w K Q else E:=by
 subst hcs;obtain ⟨R',h2,h3⟩:=u;refine yj rfl ?_;have h:=hs.perm h2;have hth:w.there b o v.cells.size:=by
  intro j hj;refine ⟨?_,h.pY _⟩;rw [h.cellAt (o+j) _ (ajI (show o+j<cs.size by omega))]
  rfl
 have hst:=run_storeCells_cells (P:=P) b o v.cells.toList 0 w (λj hj=>by simpa using (hth j zD0).1) (λj hj=>by simpa using (hth j zD0).2)
  (λu hu=>(ae0.1 h1) u hu)
 have hrun:(storeVar ty ⟨b,o,none⟩ v).run P w=.ok () (w.setCells b o v.cells.toList):=by
  cases hq:P.info? ty with
  |none=>simp [hq]at hi
  |some i=>
   have hs:v.cells.size=i.size:=by simp [hq]at hi;omega
   simp only [ai6]at hst;simp [storeVar,sizeOf,typeInfo,hq,hs,hst]
 unfold Oper.wp execOp;simp only [hx,hy,Instr.storeAt,Instr.sureAddr,ad1,aek,adu,hrun];exact hK _ ((Sat.sets _ _ h).perm h3.symm)
end
def RF.zero:RF:=⟨bK.new,.slice none 0 0,.slice none 0 0,.slice none 0 0,[]⟩
section
variable {D:ay}{xs:List RF}{g:ML}
end
end Go.Proofs.Y
namespace Go.ay
theorem UE (l:Bs) (i:Nat) (y:UInt8):(jE l i y).length=l.length:=by unfold jE;simp
def Alike (c d:jm):Prop:=d.cut=c.cut/\d.n=c.n/\d.b.length=c.b.length
theorem akv {c d:jm} (h:Alike c d){l l':Bs} (hl:l'.length=l.length):(d.on l').length=(c.on l).length:=by
 obtain ⟨h1,h2,h3⟩:=h;unfold jm.on;rw [h1];split
 ·simp [h2,hl]
 ·simp [h3,hl]
theorem at_len {f g:bK} (h0:g.fast.length=f.fast.length) (hw:g.waits.length=f.waits.length)
  (hc:∀ (k:Nat) (c d:jm),f.waits[k]?=some c->g.waits[k]?=some d->Alike c d):∀ k,k<=f.waits.length->(g.at k).length=(f.at k).length:=by
 intro k
 induction k with
 |zero=>intro _;exact h0
 |succ k ih=>
  intro hk;have h1:f.waits[k]?=some (f.waits[k]'oQ):=aay _;have h2:g.waits[k]?=some (g.waits[k]'oQ):=aay _;rw [f.zU k _ h1,g.zU k _ h2];exact akv (hc k _ _ h1 h2) (ih oQ)
theorem aoE {l:Bs}{i:Nat} (y:UInt8) (b:Bs) (h:i<l.length):jE (l++b) i y=jE l i y++b:=by
 unfold jE;rw [List.set_append_left _ _ h,adT,aej h,adT]
theorem aoF {l:Bs}{i:Nat} (y:UInt8) (b:Bs) (h:l.length<=i):jE (l++b) i y=l++jE b (i-l.length) y:=by
 unfold jE;rw [List.set_append_right _ _ h,adT,aeh h,adT]
theorem aoG (l:Bs) (i n:Nat) (y:UInt8):(jE l i y).take n=jE (l.take n) i y:=by
 unfold jE;rw [List.take_set];by_cases h:i<n
 ·rw [adT,adT,apC h]
 ·rw [List.set_eq_of_length_le yW0,List.set_eq_of_length_le yW0]
theorem akw (c:jm) (l:Bs) (i:Nat) (y:UInt8) (h:c.cut=true\/i<l.length):c.on (jE l i y)=jE (c.on l) i y:=by
 unfold jm.on;cases hc:c.cut
 ·simp only [afX,apA];rcases h with h|h
  ·rw [hc]at h;cases h
  ·exact (aoE y c.b h).symm
 ·simp only [apa];exact aoG l i c.n y
def Past (f:bK) (i k n:Nat):Prop:=∀ (j:Nat) (c:jm),k<=j->j<n->f.waits[j]?=some c->c.cut=true\/i<(f.at j).length
theorem WA {f g:bK}{i k:Nat}{y:UInt8} (h0:g.at k=jE (f.at k) i y) (hw:∀ j,k<=j->g.waits[j]?=f.waits[j]?) (hp:Past f i k f.waits.length) :
  ∀ j,k<=j->j<=f.waits.length->g.at j=jE (f.at j) i y:=by
 intro j hj
 induction hj with
 |refl=>intro _;exact h0
 |@step j hk ih=>
  intro hl;have h1:f.waits[j]?=some (f.waits[j]'oQ):=aay _;have h2:g.waits[j]?=some (f.waits[j]'oQ):=by rw [hw j hk];exact h1
  rw [f.zU j _ h1,g.zU j _ h2,ih oQ];exact akw _ _ _ _ (hp j _ hk oQ h1)
theorem ab1 (f:bK) (i:Nat) (y:UInt8):∀ n,n<=f.waits.length ->
  (yV f i y n=none/\Past f i 0 n) \/
  ∃ (k:Nat) (c:jm),k<n/\f.waits[k]?=some c/\c.cut=false/\(f.at k).length<=i/\yV f i y n=some (f.waits.set k { c with b:=jE c.b (i-(f.at k).length) y })/\Past f i (k+1) n
 |0,_=> .inl ⟨rfl,λj c _ h=>by omega⟩
 |n+1,hn=>by
  have h1:f.waits[n]?=some (f.waits[n]'oQ):=aay _;generalize f.waits[n]'oQ=c at h1;have step:(c.cut=true\/i<(f.at n).length)->yV f i y (n+1)=yV f i y n:=by
   intro h;show (match f.waits[n]? with|none=>_|some c=>_)=_;rw [h1];simp only;rcases h with h|h
   ·rw [acg h]
   ·split
    ·rfl
    ·rw [abj oQ]
  have past:∀ k,(c.cut=true\/i<(f.at n).length)->Past f i k n->Past f i k (n+1):=by
   intro k h hp j d hk hj hd;rcases akJ j n with hlt|hge
   ·exact hp j d hk hlt hd
   ·obtain rfl:j=n:=by omega
    rw [h1]at hd;cases hd;exact h
  by_cases h:c.cut=true\/i<(f.at n).length
  ·rcases ab1 f i y n oQ with ⟨h2,h3⟩|⟨k,d,h2,h3,h4,h5,h6,h7⟩
   ·exact .inl ⟨(step h).trans h2,past 0 h h3⟩
   ·exact .inr ⟨k,d,by omega,h3,h4,h5,(step h).trans h6,past _ h h7⟩
  ·have hc:c.cut=false:=by cases hcc:c.cut;rfl;exact absurd (.inl hcc) h
   have hl:(f.at n).length<=i:=Nat.le_of_not_lt λh'=>h (.inr h');refine .inr ⟨n,c,by omega,h1,hc,hl,?_,λj d hk hj=>by omega⟩;show (match f.waits[n]? with|none=>_|some c=>_)=_;rw [h1];simp only [hc,afX,apA];rw [acg hl]
theorem ab2 {f g:bK}{K:Nat} (h:f.Ok K) (h0:g.fast.length=f.fast.length) (hw:g.waits.length=f.waits.length)
  (hc:∀ (k:Nat) (c d:jm),f.waits[k]?=some c->g.waits[k]?=some d->Alike c d) (hn:g.now=g.at f.waits.length):g.Ok K:=by
 have hl:=at_len h0 hw hc;refine ⟨by rw [hw];exact hn,?_,?_,by rw [hw];exact h.budget⟩
 ·intro k d hk hd;have hlt:k<g.waits.length:=(abm.1 hk).1;obtain ⟨c,hcc⟩:∃ c,f.waits[k]?=some c:=⟨f.waits[k]'oQ,aay _⟩;obtain ⟨a1,a2,a3⟩:=hc k c d hcc hk;rw [hl k oQ,a2];exact h.cuts k c hcc (by rw [<-a1];exact hd)
 ·intro k hk;rw [hl k oQ];exact h.size k oQ
theorem bK.Ok.oJ {f:bK}{K:Nat} (h:f.Ok K) (i:Nat) (y:UInt8):(f.oJ i y).Ok K/\(f.oJ i y).now=jE f.now i y:=by
 rcases ab1 f i y f.waits.length (abl _) with ⟨h1,h2⟩|⟨k,c,hk,hc,hcut,hlen,h1,h2⟩
 ·have e:f.oJ i y={ f with now:=jE f.now i y,fast:=jE f.fast i y }:=by unfold bK.oJ;rw [h1]
  rw [e];refine ⟨ab2 h (UE _ _ _) rfl (λk c d h3 h4=>?_) ?_,rfl⟩
  ·rw [h3]at h4;cases h4;exact ⟨rfl,rfl,rfl⟩
  ·have:=WA (f:=f) (g:={ f with now:=jE f.now i y,fast:=jE f.fast i y }) (i:=i) (k:=0) (y:=y) rfl (λj _=>rfl) h2 f.waits.length (aea _) (abl _);rw [this,<-h.now]
 ·have e:f.oJ i y={ f with now:=jE f.now i y,waits:=f.waits.set k { c with b:=jE c.b (i-(f.at k).length) y } }:=by unfold bK.oJ;rw [h1]
  rw [e];have hset:(f.waits.set k { c with b:=jE c.b (i-(f.at k).length) y })[k]?=some { c with b:=jE c.b (i-(f.at k).length) y }:=by rw [List.getElem?_set_self hk]
  refine ⟨ab2 h rfl yF0 (λj c' d h3 h4=>?_) ?_,rfl⟩
  ·simp only at h4;by_cases hj:k=j
   ·subst hj;rw [hset]at h4;rw [hc]at h3;cases h3;cases h4;exact ⟨rfl,rfl,UE _ _ _⟩
   ·rw [List.getElem?_set_ne hj,h3]at h4;cases h4;exact ⟨rfl,rfl,rfl⟩
  ·generalize hg:({ f with now:=jE f.now i y,waits:=f.waits.set k { c with b:=jE c.b (i-(f.at k).length) y } }:bK)=g;have hgw:g.waits=f.waits.set k { c with b:=jE c.b (i-(f.at k).length) y }:=by rw [<-hg]
   have hgf:g.fast=f.fast:=by rw [<-hg]
   have hgn:g.now=jE f.now i y:=by rw [<-hg]
   have hk0:g.at k=f.at k:=by unfold bK.at;rw [hgw,hgf,List.take_set_of_le (abl _)]
   have hk1:g.at (k+1)=jE (f.at (k+1)) i y:=by
    rw [g.zU k _ (by rw [hgw];exact hset),hk0,f.zU k c hc];unfold jm.on;simp only [hcut,afX,apA];rw [aoF y c.b hlen]
   have:=WA hk1 (λj hj=>by rw [hgw,List.getElem?_set_ne oQ]) h2 f.waits.length hk (abl _);rw [this,hgn,<-h.now]
structure Cal where
 kind:Int
 name:ByteArray
 to:ByteArray
 n:Int
 m:Int
 b:Bs
 l:List Int
def Au (m:Int):UInt8:=UInt8.ofNat (m%256).toNat
def ay.does (M:ay) (x:Cal):ay×(Bs×Int×Bool):=
 if x.kind=0 then ((M.create x.name).1,[],(M.create x.name).2,false)
 else if x.kind=1 then ((M.append x.name x.b).1,[],(M.append x.name x.b).2,false)
 else if x.kind=2 then ((M.truncate x.name x.n).1,[],(M.truncate x.name x.n).2,false)
 else if x.kind=3 then ((M.rename x.name x.to).1,[],(M.rename x.name x.to).2,false)
 else if x.kind=4 then ((M.remove x.name).1,[],(M.remove x.name).2,false)
 else if x.kind=5 then ((M.sync x.name).1,[],(M.sync x.name).2,false)
 else if x.kind=6 then (M.dR.1,[],M.dR.2,false)
 else if x.kind=7 then ((M.arm x.n).1,[],(M.arm x.n).2,false)
 else if x.kind=8 then (M.crash x.l,[],0,false)
 else if x.kind=9 then ((M.DI x.n).1,[],(M.DI x.n).2,false)
 else if x.kind=10 then ((M.oJ x.name x.n (Au x.m)).1,[],0,(M.oJ x.name x.n (Au x.m)).2)
 else (M,(M.read x.name x.n x.m).1,(M.read x.name x.n x.m).2,false)
theorem ay.agQ {P:ay×Bs×Int×Bool->Prop}{M:ay}{x:Cal}
  (h0:x.kind=0->P ((M.create x.name).1,[],(M.create x.name).2,false))
  (h1:x.kind=1->P ((M.append x.name x.b).1,[],(M.append x.name x.b).2,false))
  (h2:x.kind=2->P ((M.truncate x.name x.n).1,[],(M.truncate x.name x.n).2,false))
  (h3:x.kind=3->P ((M.rename x.name x.to).1,[],(M.rename x.name x.to).2,false))
  (h4:x.kind=4->P ((M.remove x.name).1,[],(M.remove x.name).2,false))
  (h5:x.kind=5->P ((M.sync x.name).1,[],(M.sync x.name).2,false))
  (h6:x.kind=6->P (M.dR.1,[],M.dR.2,false))
  (h7:x.kind=7->P ((M.arm x.n).1,[],(M.arm x.n).2,false))
  (h8:x.kind=8->P (M.crash x.l,[],0,false))
  (h9:x.kind=9->P ((M.DI x.n).1,[],(M.DI x.n).2,false))
  (h10:x.kind=10->P ((M.oJ x.name x.n (Au x.m)).1,[],0,(M.oJ x.name x.n (Au x.m)).2))
  (hz:x.kind≠0/\x.kind≠1/\x.kind≠2/\x.kind≠3/\x.kind≠4/\x.kind≠5/\x.kind≠6/\x.kind≠7/\x.kind≠8/\x.kind≠9/\x.kind≠10->P (M,(M.read x.name x.n x.m).1,(M.read x.name x.n x.m).2,false)):P (M.does x):=by
 unfold ay.does;by_cases c0:x.kind=0;· rw [acg c0];exact h0 c0
 rw [abj c0];by_cases c1:x.kind=1;· rw [acg c1];exact h1 c1
 rw [abj c1];by_cases c2:x.kind=2;· rw [acg c2];exact h2 c2
 rw [abj c2];by_cases c3:x.kind=3;· rw [acg c3];exact h3 c3
 rw [abj c3];by_cases c4:x.kind=4;· rw [acg c4];exact h4 c4
 rw [abj c4];by_cases c5:x.kind=5;· rw [acg c5];exact h5 c5
 rw [abj c5];by_cases c6:x.kind=6;· rw [acg c6];exact h6 c6
 rw [abj c6];by_cases c7:x.kind=7;· rw [acg c7];exact h7 c7
 rw [abj c7];by_cases c8:x.kind=8;· rw [acg c8];exact h8 c8
 rw [abj c8];by_cases c9:x.kind=9;· rw [acg c9];exact h9 c9
 rw [abj c9];by_cases c10:x.kind=10;· rw [acg c10];exact h10 c10
 rw [abj c10];exact hz ⟨c0,c1,c2,c3,c4,c5,c6,c7,c8,c9,c10⟩
structure Quiet (M:ay):Prop where
 armed:M.armed=false
 off:M.off=false
 left:M.left=0
theorem Quiet.new (r:Nat):Quiet (new r):=⟨rfl,rfl,rfl⟩
theorem Quiet.step {M:ay} (h:Quiet M):M.step=(M,true):=by simp [ay.step,h.armed]
theorem Quiet.link {M:ay} (h:Quiet M) (x:jc):Quiet (M.link x):=⟨h.armed,h.off,h.left⟩
theorem Quiet.jf {M:ay} (h:Quiet M) (i:Nat) (f:bK):Quiet (M.jf i f):=⟨h.armed,h.off,h.left⟩
theorem Quiet.create {M:ay} (h:Quiet M) (s:ByteArray):Quiet (M.create s).1:=by
 unfold ay.create;rw [h.step];split;· exact h
 split;· exact h
 split;· exact h
 split;· exact h
 split;· exact h
 exact ⟨h.armed,h.off,h.left⟩
theorem Quiet.append {M:ay} (h:Quiet M) (s:ByteArray) (b:Bs):Quiet (M.append s b).1:=by
 unfold ay.append;rw [h.step];split;· exact h
 split;· exact h
 split;· exact h
 split;· exact h
 exact h.jf _ _
theorem Quiet.rename {M:ay} (h:Quiet M) (s t:ByteArray):Quiet (M.rename s t).1:=by
 unfold ay.rename;rw [h.step];split;· exact h
 split;· exact h
 split;· exact h
 split;· exact h
 exact h.link _
theorem Quiet.remove {M:ay} (h:Quiet M) (s:ByteArray):Quiet (M.remove s).1:=by
 unfold ay.remove;rw [h.step];split;· exact h
 split;· exact h
 split;· exact h
 exact h.link _
theorem Quiet.sync {M:ay} (h:Quiet M) (s:ByteArray):Quiet (M.sync s).1:=by
 unfold ay.sync;rw [h.step];split;· exact h
 split;· exact h
 split;· exact h
 exact h.jf _ _
theorem Quiet.dR {M:ay} (h:Quiet M):Quiet M.dR.1:=by
 unfold ay.dR;rw [h.step];split;· exact h
 split;· exact h
 exact ⟨h.armed,h.off,h.left⟩
theorem Quiet.Gu {M:ay} (h:Quiet M){s:ByteArray}{i:Nat} (hs:bU M.now s=some i):M.sync s=(M.jf i (M.file i).sync,0):=by
 unfold ay.sync;rw [h.step,h.off,hs]
 rfl
theorem EU {M:ay}{i:Nat}{f:bK} (hi:i<M.files.length) (j:Nat):(M.jf i f).file j=if j=i then f else M.file j:=by
 unfold ay.jf ay.file;simp only [adT];split
 ·rename_i h;subst h;rw [List.getElem?_set_self hi];rfl
 ·rename_i h;rw [List.getElem?_set_ne (Ne.symm h)]
theorem Quiet.LD {M:ay} (h:Quiet M):M.dR=({ M with fast:=M.now,waits:=[] },0):=by
 unfold ay.dR;rw [h.step,abj (by rw [h.off];exact Bool.false_ne_true)];simp
theorem Quiet.list {M:ay} (h:Quiet M):M.list=M.now.map (·.1):=by unfold ay.list;rw [h.off];rfl
def rV (M:ay):Prop:=(M.now.map (·.2)).Nodup
theorem Un {M:ay} (hs:oD M.now) (hd:rV M){s:ByteArray}{i:Nat} (h:bU M.now s=some i) :
  (∀ p∈iD M.now s,p.2≠i)/\∀ g:Nat->Nat,(M.now.map λp=>g p.2).sum=g i+((iD M.now s).map λp=>g p.2).sum:=by
 have hp:=QJ hs.keys (jD h);constructor
 ·have hd':(M.now.map λp:ByteArray×Nat=>p.2).Nodup:=hd;have:=(hp.map (λp:ByteArray×Nat=>p.2)).nodup_iff.1 hd';simp only [ad7,akZ]at this;intro p hp e;exact this.1 (abL.2 ⟨p,hp,e⟩)
 ·intro g;have:=(hp.map λp=>g p.2).sum_nat;simpa using this
theorem Lu {l:Names}{g h:Nat->Nat} (e:∀ p∈l,g p.2=h p.2):(l.map λp=>g p.2).sum=(l.map λp=>h p.2).sum:=by
 rw [akU e]
theorem adp {M:ay}{K:Nat} (ok:M.Ok K) (hd:rV M){s:ByteArray}{i:Nat} (h:bU M.now s=some i) (f:bK) :
  (M.jf i f).used+(M.file i).now.length=M.used+f.now.length:=by
 obtain ⟨h1,h2⟩:=Un ok.ig.ny hd h;have hi:i<M.files.length:=ok.ig.ids _ (jD h);have e1:=h2 λj=>(M.file j).now.length;have e2:=h2 λj=>((M.jf i f).file j).now.length
 have e3:((iD M.now s).map λp=>((M.jf i f).file p.2).now.length).sum=((iD M.now s).map λp=>(M.file p.2).now.length).sum:=
  Lu (g:=λj=>((M.jf i f).file j).now.length) (h:=λj=>(M.file j).now.length) λp hp=>by rw [EU hi,abj (h1 p hp)]
 have e4:(M.jf i f).file i=f:=by rw [EU hi,acg rfl]
 simp only [e4,e3]at e2;show (M.now.map λp=>((M.jf i f).file p.2).now.length).sum+_=(M.now.map λp=>(M.file p.2).now.length).sum+_;rw [e1,e2];omega
theorem LC (l:Names) (s:ByteArray) (g:Nat->Nat):((iD l s).map λp=>g p.2).sum<=(l.map λp=>g p.2).sum:=by
 induction l with
 |nil=>exact abl _
 |cons p l ih=>
  unfold iD at ih ⊢;rw [ajL];split
  ·simp only [ad7,ap6];omega
  ·simp only [ad7,ap6];omega
theorem DN (l:Names) (s:ByteArray) (i:Nat) (g:Nat->Nat):((kV l s i).map λp=>g p.2).sum=g i+((iD l s).map λp=>g p.2).sum:=by
 have:=((wW l s i).map λp=>g p.2).sum_nat;simpa using this
theorem aaN {l:Names}{s:ByteArray}{i:Nat} (h:(l.map (·.2)).Nodup) (hi:∀ p∈l,p.2≠i):((kV l s i).map (·.2)).Nodup:=by
 refine ((wW l s i).map (·.2)).nodup_iff.2 ?_;simp only [ad7,akZ];refine ⟨λhm=>?_,h.sublist (apj.map _)⟩;obtain ⟨p,hp,e⟩:=abL.1 hm;exact hi p (aem.1 hp).1 e
structure Fits (M M':ay):Prop where
 room:M'.room=M.room
 dst:rV M'
 used:M'.used<=M'.room
theorem ant (M:ay):M.step.1.room=M.room/\M.step.1.now=M.now/\M.step.1.files=M.files:=⟨M.jZ.1,M.jZ.2.2.1,M.jZ.2.2.2.1⟩
theorem Fits.self {M:ay} (hd:rV M) (hu:M.used<=M.room):Fits M M:=⟨rfl,hd,hu⟩
theorem ado {M M':ay} (h1:M'.now=M.now) (h2:M'.files=M.files):M'.used=M.used:=by unfold ay.used ay.file;rw [h1,h2]
theorem Fits.alike {M M':ay} (hd:rV M) (hu:M.used<=M.room) (hr:M'.room=M.room) (h1:M'.now=M.now) (h2:M'.files=M.files):Fits M M':=
 ⟨hr,by unfold rV;rw [h1];exact hd,by rw [ado h1 h2,hr];exact hu⟩
theorem Fits.set {M M':ay}{K:Nat} (ok:M.Ok K) (hd:rV M) (hu:M.used<=M.room) (hr:M'.room=M.room) (h1:M'.now=M.now) (h2:M'.files=M.files){s:ByteArray}{i:Nat} (h:bU M.now s=some i) (f:bK)
  (hf:M.used+f.now.length<=M.room+(M.file i).now.length):Fits M (M'.jf i f):=by
 have e:(M'.jf i f).used=(M.jf i f).used:=ado (by exact h1) (by show M'.files.set i f=M.files.set i f;rw [h2]);have:=adp ok hd h f;refine ⟨hr,by show (M'.now.map (·.2)).Nodup;rw [h1];exact hd,?_⟩;rw [e];show _<=M'.room;rw [hr];omega
theorem Fits.does {M:ay}{K:Nat} (ok:M.Ok K) (hd:rV M) (hu:M.used<=M.room) (x:Cal) (h8:x.kind≠8) (h9:x.kind≠9) :
  Fits M (M.does x).1/\((M.does x).2.2.1=11->x.kind=1/\M.room<M.uJ+x.b.length):=by
 have r:=Fits.self hd hu;obtain ⟨s1,s2,s3⟩:=ant M;have rs:Fits M M.step.1:=Fits.alike hd hu s1 s2 s3;refine ay.agQ (P:=λq=>Fits M q.1/\(q.2.2.1=11->x.kind=1/\M.room<M.uJ+x.b.length)) ?_ ?_ ?_ ?_ ?_ ?_ ?_ ?_ ?_ ?_ ?_ ?_
 ·intro _;show Fits M (M.create x.name).1/\((M.create x.name).2=11->_);unfold ay.create;split;· exact ⟨r,by simp⟩
  split;· exact ⟨r,by simp⟩
  rename_i hg;split;· exact ⟨r,by simp⟩
  rename_i hn;split;· exact ⟨r,by simp⟩
  split;· exact ⟨rs,by simp⟩
  refine ⟨?_,by simp⟩;have hnn:bU M.now x.name=none:=by simpa using hn
  have hlt:=ok.ig.ids;have hne:x.name≠ByteArray.empty:=rE (by simpa using hg);have yx:(({ M.step.1 with files:=M.files++[bK.new] }:ay).link ⟨ByteArray.empty,x.name,M.files.length⟩).now=kV M.now x.name M.files.length:=by
   show jc.on _ M.step.1.now=_;rw [s2];unfold jc.on;simp only [apa,abj hne]
  have hdel:=yH hnn;refine ⟨s1,?_,?_⟩
  ·unfold rV;rw [yx];exact aaN hd λp hp e=>by have:=hlt p hp;omega
  ·have:(({ M.step.1 with files:=M.files++[bK.new] }:ay).link ⟨ByteArray.empty,x.name,M.files.length⟩).used=M.used:=by
    show ((ay.now _).map λp=>(ay.file _ p.2).now.length).sum=_;rw [yx,DN _ _ _ (λj=>(ay.file _ j).now.length),hdel];have e0:((({ M.step.1 with files:=M.files++[bK.new] }:ay).link ⟨ByteArray.empty,x.name,M.files.length⟩).file M.files.length).now.length=0:=by
     simp [ay.file,ay.link,bK.new]
    rw [e0,ad8];refine Lu (g:=λj=>(ay.file _ j).now.length) (h:=λj=>(M.file j).now.length) λp hp=>?_;have:=hlt p hp;simp only [ay.file,ay.link,adT];rw [aej this]
   rw [this];show _<=M.step.1.room;rw [s1];exact hu
 ·intro hk1;show Fits M (M.append x.name x.b).1/\((M.append x.name x.b).2=11->_);unfold ay.append;split;· exact ⟨r,by simp⟩
  rename_i hoff;split;· exact ⟨r,by simp⟩
  rename_i i hi;split
  ·rename_i hfull;refine ⟨r,λ_=>⟨hk1,?_⟩⟩;have:M.uJ=M.used:=by unfold ay.uJ;rw [abj hoff]
   rw [this];omega
  rename_i hfull;split;· exact ⟨rs,by simp⟩
  refine ⟨Fits.set ok hd hu s1 s2 s3 hi _ ?_,by simp⟩;simp only [bK.do,jm.on,afX,apA,aaL];omega
 ·intro _;show Fits M (M.truncate x.name x.n).1/\((M.truncate x.name x.n).2=11->_);unfold ay.truncate;split;· exact ⟨r,by simp⟩
  split;· exact ⟨r,by simp⟩
  rename_i i hi;split;· exact ⟨r,by simp⟩
  split;· exact ⟨rs,by simp⟩
  refine ⟨Fits.set ok hd hu s1 s2 s3 hi _ ?_,by simp⟩;simp only [bK.do,jm.on,apa,ads];omega
 ·intro _;show Fits M (M.rename x.name x.to).1/\((M.rename x.name x.to).2=11->_);unfold ay.rename;split;· exact ⟨r,by simp⟩
  split;· exact ⟨r,by simp⟩
  rename_i i hi;split;· exact ⟨r,by simp⟩
  rename_i hg;split;· exact ⟨rs,by simp⟩
  refine ⟨?_,by simp⟩;have hne:x.to≠ByteArray.empty:=rE (by simpa using hg);have hs:x.name≠ByteArray.empty:=ok.ig.ne _ (jD hi);obtain ⟨h1,h2⟩:=Un ok.ig.ny hd hi;have yx:(M.step.1.link ⟨x.name,x.to,i⟩).now=kV (iD M.now x.name) x.to i:=by
   show jc.on _ M.step.1.now=_;rw [s2];unfold jc.on;simp only [abj hs,abj hne]
  refine ⟨s1,?_,?_⟩
  ·unfold rV;rw [yx];exact aaN (hd.sublist (apj.map _)) h1
  ·have e1:=h2 λj=>(M.file j).now.length;have e2:=LC (iD M.now x.name) x.to λj=>(M.file j).now.length;have:(M.step.1.link ⟨x.name,x.to,i⟩).used=((kV (iD M.now x.name) x.to i).map λp=>(M.file p.2).now.length).sum:=by
    show ((ay.now _).map λp=>(ay.file _ p.2).now.length).sum=_;rw [yx];unfold ay.file ay.link;simp only [s3]
   rw [this,DN _ _ _ (λj=>(M.file j).now.length)];show _<=M.step.1.room;rw [s1];unfold ay.used at hu;omega
 ·intro _;show Fits M (M.remove x.name).1/\((M.remove x.name).2=11->_);unfold ay.remove;split;· exact ⟨r,by simp⟩
  split;· exact ⟨r,by simp⟩
  rename_i i hi;split;· exact ⟨rs,by simp⟩
  refine ⟨?_,by simp⟩;have hs:x.name≠ByteArray.empty:=ok.ig.ne _ (jD hi);have yx:(M.step.1.link ⟨x.name,ByteArray.empty,0⟩).now=iD M.now x.name:=by
   show jc.on ⟨x.name,ByteArray.empty,0⟩ M.step.1.now=_;rw [s2];unfold jc.on;simp only [abj hs,apa]
  refine ⟨s1,?_,?_⟩
  ·unfold rV;rw [yx];exact hd.sublist (apj.map _)
  ·have e2:=LC M.now x.name λj=>(M.file j).now.length;have:(M.step.1.link ⟨x.name,ByteArray.empty,0⟩).used=((iD M.now x.name).map λp=>(M.file p.2).now.length).sum:=by
    show ((ay.now _).map λp=>(ay.file _ p.2).now.length).sum=_;rw [yx];unfold ay.file ay.link;simp only [s3]
   rw [this];show _<=M.step.1.room;rw [s1];unfold ay.used at hu;omega
 ·intro _;show Fits M (M.sync x.name).1/\((M.sync x.name).2=11->_);unfold ay.sync;split;· exact ⟨r,by simp⟩
  split;· exact ⟨r,by simp⟩
  rename_i i hi;split;· exact ⟨rs,by simp⟩
  refine ⟨Fits.set ok hd hu s1 s2 s3 hi _ ?_,by simp⟩;simp only [bK.sync];omega
 ·intro _;show Fits M M.dR.1/\(M.dR.2=11->_);unfold ay.dR;split;· exact ⟨r,by simp⟩
  split;· exact ⟨rs,by simp⟩
  exact ⟨Fits.alike hd hu s1 s2 s3,by simp⟩
 ·intro _;show Fits M (M.arm x.n).1/\((M.arm x.n).2=11->_);unfold ay.arm;split;· exact ⟨r,by simp⟩
  split;· exact ⟨r,by simp⟩
  exact ⟨Fits.alike hd hu rfl rfl rfl,by simp⟩
 ·exact λh=>absurd h h8
 ·exact λh=>absurd h h9
 ·intro _;refine ⟨?_,λh=>by simp at h⟩;show Fits M (M.oJ x.name x.n (Au x.m)).1;unfold ay.oJ;split;· exact r
  rename_i i hi;split;· exact r
  refine Fits.set ok hd hu rfl rfl rfl hi _ ?_;rw [((ok.file i).oJ _ _).2,UE];omega
 ·intro _;refine ⟨r,λh=>?_⟩;exfalso;have h':(M.read x.name x.n x.m).2=11:=h;unfold ay.read at h';revert h';split
  ·simp
  split
  ·simp
  simp only;split
  ·simp
  split
  ·simp
  ·simp
def ay.KN (m:ay) (s t:ByteArray) (gone:Bool):ay×Int:=
 if m.off then (m,12)
 else match bU m.now s with
 |none=>(m,9)
 |some i=>
  if gone=false/\good t=false then (m,7)
  else if m.step.2=false then (m.step.1,12)
  else (m.step.1.link ⟨s,if gone then ByteArray.empty else t,i⟩,0)
def ay.alF (D:ay) (l:List Int) (i:Nat) (p:ByteArray×Nat):bK:=(D.file p.2).crash (num l (2*i+1)) (num l (2*i+2))
def ay.alm (D:ay) (l:List Int):ay:=
 let ns:=D.pG (Jd (num l 0) D.waits.length)
 { D with fast:=ns.mapIdx λi p=>(p.1,i),now:=ns.mapIdx λi p=>(p.1,i),waits:=[],files:=ns.mapIdx (D.alF l),off:=false,armed:=false,left:=0 }
def ay.told (D:ay) (x:Cal):ay×(Bs×Int×Bool):=
 if x.kind=0 then ((D.create x.name).1,[],(D.create x.name).2,false)
 else if x.kind=1 then ((D.append x.name x.b).1,[],(D.append x.name x.b).2,false)
 else if x.kind=2 then ((D.truncate x.name x.n).1,[],(D.truncate x.name x.n).2,false)
 else if x.kind=3 then ((D.KN x.name x.to false).1,[],(D.KN x.name x.to false).2,false)
 else if x.kind=4 then ((D.KN x.name ByteArray.empty true).1,[],(D.KN x.name ByteArray.empty true).2,false)
 else if x.kind=5 then ((D.sync x.name).1,[],(D.sync x.name).2,false)
 else if x.kind=6 then (D.dR.1,[],D.dR.2,false)
 else if x.kind=7 then ((D.arm x.n).1,[],(D.arm x.n).2,false)
 else if x.kind=8 then (D.alm x.l,[],0,false)
 else if x.kind=9 then ((D.DI x.n).1,[],(D.DI x.n).2,false)
 else if x.kind=10 then ((D.oJ x.name x.n (Au x.m)).1,[],0,(D.oJ x.name x.n (Au x.m)).2)
 else (D,(D.read x.name x.n x.m).1,(D.read x.name x.n x.m).2,false)
section
variable {φ:Nat->Nat}{L:Nat->Prop}{M D:ay}{K:Nat}
end
section
variable {φ:Nat->Nat}{L:Nat->Prop}{M D:ay}{K:Nat}
end
def bK.Small (f:bK):Prop:=∀ c∈f.waits,c.b.length<=16777216
def ay.Small (m:ay):Prop:=∀ f∈m.files,f.Small
end Go.ay
namespace Go.Proofs.Y
open Go.ay
def kS (xs:List Value) (i:Nat) (vs:List Value):List Value:=xs.take i++(vs++xs.drop (i+vs.length))
theorem yR (A B vs:List Value) (i:Nat):kS (A++B) (A.length+i) vs=A++kS B i vs:=by
 unfold kS;rw [List.take_length_add_append,apB,List.drop_length_add_append,adQ]
theorem abp {xs vs:List Value}{i:Nat} (h:i+vs.length<=xs.length):(kS xs i vs).length=xs.length:=by
 unfold kS;simp only [aaL,ads,ad3];omega
section
variable {o:Nat}{t ty T:Nat}{pos:String}{xs vs:List Value}{K:Act->World->Prop}
theorem abw {cs:Array Value}{i m:Nat} (hx:cs.toList.take m=xs) (hm:m<=cs.size) (hi:i+vs.length<=m):(eU cs i vs).toList.take m=kS xs i vs:=by
 subst hx;rw [l9 _ _ _ oQ];have hl:(cs.toList.take i++vs).length=i+vs.length:=by rw [aaL,ads,ad4];omega
 unfold kS;rw [List.take_append,hl,ad9 oQ,List.take_take,ap1 oQ,List.drop_take,adQ]
theorem aoz (i:Nat) (hs:Sat w0 w L) (hx:a.eval x=.pointer (some ⟨b,i,none⟩)) (hy:a.eval y=v) (hv:v.cells.toList=vs) (u:pW (aC T sz (.slice (some ⟨b,0,none⟩) n c) xs) (aC T sz (.slice (some ⟨b,0,none⟩) n c) (kS xs i vs)) L L')
  (hi:i+vs.length<=xs.length) (hty:(P.info? ty).map (·.size)=some vs.length) (h1:vs.all (·.oneCell')=true)
  (hK:∀ w',Sat w0 w' L'->wpList P ops Q rest (a.put dst undef) w'):wpList P ops Q (⟨dst,.store ty x y,t,pos,after,none⟩::rest) a w:=by
 have hvs:v.cells.size=vs.length:=by rw [<-hv,ad4]
 obtain ⟨R',h2,h3⟩:=u;have h:=hs.perm h2;rcases Sat.lC h with ⟨he,_⟩|⟨g',n',cap',cs,he,k1,k2,k3,k4,k5,k6⟩
 ·cases he
 ·cases he;have hlen:xs.length<=cs.size:=by rw [<-k5,ads,ad4];omega
  have hm:n*sz<=cs.size:=adt (ae4 _ k2) k3;refine GY rfl ty x y rfl i v hx hy (by rw [hvs];omega) (by rw [hvs];exact hty) (by rw [<-Array.all_toList,hv];exact h1) k6 λw' hS=>hK w' (Sat.perm ?_ h3.symm);refine Sat.lN hS (by rw [abp hi];exact k1) k2 (by rw [kW];exact k3) k4 ?_;rw [hv];exact abw k5 hm (by rw [<-k1];exact hi)
theorem Jl (i:Nat) (hs:Sat w0 w L) (hx:a.eval x=.pointer (some ⟨b,i,none⟩)) (hy:a.eval y=v) (hv:v.cells.toList=vs) (u:pW (aC T sz (.slice (some ⟨b,0,none⟩) n c) xs) (aC T sz (.slice (some ⟨b,0,none⟩) n c) (kS xs i vs)) L L')
  (hi:i+vs.length<=xs.length) (hty:(P.info? ty).map (·.size)=some vs.length) (h1:vs.all (·.oneCell')=true)
  (hK:∀ w',Sat w0 w' L'->K (a.put dst undef) w') :
  if Region.wanted ⟨dst,.store ty x y,t,pos,after,none⟩ (yielded ops a.tmps)=true then Oper.wp P ⟨dst,.store ty x y,t,pos,after,none⟩ a w K Q else E:=by
 have hvs:v.cells.size=vs.length:=by rw [<-hv,ad4]
 obtain ⟨R',h2,h3⟩:=u;have h:=hs.perm h2;rcases Sat.lC h with ⟨he,_⟩|⟨g',n',cap',cs,he,k1,k2,k3,k4,k5,k6⟩
 ·cases he
 ·cases he;have hlen:xs.length<=cs.size:=by rw [<-k5,ads,ad4];omega
  have hm:n*sz<=cs.size:=adt (ae4 _ k2) k3;refine kQ k6 hx hy (cs':=eU cs i vs) (by rw [hv]) cZ (by rw [hvs];omega) (by rw [hvs];exact hty) (by rw [hv];exact h1) λw' hS=>hK w' (Sat.perm ?_ h3.symm);refine Sat.lN hS (by rw [abp hi];exact k1) k2 (by rw [kW];exact k3) k4 ?_;exact abw k5 hm (by rw [<-k1];exact hi)
end
theorem jy:∀ {l:List α},(∀ x∈l,(f x).length=k)->(l.flatMap f).length=k*l.length
 |[],_=>rfl
 |x::l,h=>by rw [ael,aaL,h x (.head _),jy λy hy=>h y (.tail _ hy),aep,Nat.mul_succ];omega
theorem KT:∀ {l:List α}{i:Nat}{x:α}{j:Nat}{v:Value},(∀ x∈l,(f x).length=k)->l[i]?=some x->(f x)[j]?=some v->(l.flatMap f)[i*k+j]?=some v
 |[],_,_,_,_,_,h,_=>by cases h
 |y::l,0,x,j,v,hk,h,hj=>by
  obtain rfl:y=x:=by simpa using h
  rw [ael,Nat.zero_mul,ad8,aej (abm.1 hj).1];exact hj
 |y::l,i+1,x,j,v,hk,h,hj=>by
  have h0:=hk y (.head _);rw [ael,Nat.succ_mul,aeh oQ,h0,show i*k+k+j-k=i*k+j by omega];exact KT (λz hz=>hk z (.tail _ hz)) yP0 hj
theorem KW:∀ {l:List α}{i:Nat}{x:α},(∀ x∈l,(f x).length=k)->(f x).length=k->i<l.length->(l.set i x).flatMap f=kS (l.flatMap f) (i*k) (f x)
 |[],_,_,_,_,h=>by simp at h
 |y::l,0,x,hk,hx,h=>by
  have h0:=hk y (.head _);rw [List.set_cons_zero,ael,ael];unfold kS;rw [Nat.zero_mul,aeO,aeu,ad8,hx,<-h0,List.drop_left]
 |y::l,i+1,x,hk,hx,h=>by
  have h0:=hk y (.head _);rw [List.set_cons_succ,ael,ael,KW (λz hz=>hk z (.tail _ hz)) hx yP0,Nat.succ_mul,apW (i*k) k,<-h0,yR]
theorem KU (n:Nat) (x:α):(List.replicate n x).flatMap f=(List.replicate n (f x)).flatten:=by
 induction n with
 |zero=>rfl
 |succ n ih=>rw [List.replicate_succ,ael,ih,List.replicate_succ,ao1]
theorem jd {l:List α}{i:Nat}{x:α} (hk:∀ x∈l,(f x).length=k) (h:bF k v (l.flatMap f) w) (hi:l[i]?=some x) (h0:0<k) :
  ∃ bk off c,v=.slice (some ⟨bk,off,none⟩) l.length c/\∀ j y,(f x)[j]?=some y->w.cell? ⟨bk,off+i*k+j,none⟩=some y:=by
 obtain ⟨a,n,c,rfl,hl,hx⟩:=id h;rw [jy hk]at hl;have hfx:=hk x (abA hi);obtain rfl:n=l.length:=by
  rw [aiv]at hl;exact (Nat.eq_of_mul_eq_mul_right h0 hl).symm
 obtain ⟨y0,hy0⟩:∃ y,(f x)[0]?=some y:=⟨_,aay oQ⟩;have h1:=KT hk hi hy0;obtain ⟨bk,off,rfl,hc⟩:=pI h h1;exact ⟨bk,off,c,rfl,λj y hj=>by rw [apB];exact hc _ _ (KT hk hi hj)⟩
theorem jK {l:List α} (hk:∀ x∈l,(f x).length=k) (h:bF k v (l.flatMap f) w) (h0:0<k):∃ a c,v=.slice a l.length c:=by
 obtain ⟨a,n,c,rfl,hl,hx⟩:=id h;rw [jy hk,aiv]at hl;exact ⟨a,c,by rw [Nat.eq_of_mul_eq_mul_right h0 hl]⟩
theorem VZ (x j:Nat) (hx:x<9223372036854775808) (hj:j<63):bits .and .i64 (x:Int) ((2^j-1:Nat):Int)=((x%2^j:Nat):Int):=by
 have h2:2^j<=2^62:=ao7 aN oQ;have h3:(2:Nat)^62=4611686018427387904:=by decide
 have h4:0<2^j:=Nat.two_pow_pos j;have hm:(BitVec.ofInt 64 ((2^j-1:Nat):Int)).toNat=2^j-1:=by
  rw [BitVec.toNat_ofInt];have:((2^64:Nat):Int)=18446744073709551616:=by decide
  rw [this];omega
 have hn:(BitVec.ofInt 64 (x:Int)).toNat=x:=by
  rw [BitVec.toNat_ofInt];have:((2^64:Nat):Int)=18446744073709551616:=by decide
  rw [this];omega
 show IntKind.i64.wrap ((BitVec.ofInt 64 (x:Int) &&& BitVec.ofInt 64 ((2^j-1:Nat):Int)).toNat:Nat)=_;rw [BitVec.toNat_and,hm,hn,Nat.and_two_pow_sub_one_eq_mod,aeU];have:=ao0 x h4;omega
theorem Q9 (l:Bs) (c:UInt8) (k:Nat) (hl:l.length=k) (hk:k<4):bits .or .u32 ((aj.num l:Nat):Int) ((c.toNat:Int)*((256^k:Nat):Int))=((aj.num (l++[c]):Nat):Int):=by
 subst hl;have h1:=aj.yJ l;have h2:=c.toNat_lt;have h3:256^l.length<=256^3:=ao7 aN oQ;have h4:c.toNat*256^l.length<=255*256^3:=an9 oQ h3;have h5:(256:Nat)^3=16777216:=by decide
 have e:(c.toNat:Int)*((256^l.length:Nat):Int)=((c.toNat*256^l.length:Nat):Int):=by rw [aqe]
 rw [e,u32_or_nat _ _ oQ oQ,aj.QZ]
 congr 1
 have hp:(256:Nat)^l.length=2^(8*l.length):=by rw [Nat.pow_mul]
 rw [hp]at h1 ⊢;have:=Nat.two_pow_add_eq_or_of_lt h1 c.toNat;rw [Nat.or_comm,aiv c.toNat,<-this,apW]
theorem aiy (k:Bs) (hk:k.length=32) (j:Nat) (hj:j<40) (h:Sat w0 w F) :
  Calls prog 179 #[.agg (aA k).toArray,.int .i64 (2^j:Nat)] w (aP λv w'=>v=.int .i64 (Tab.home k (2^j):Nat)/\Sat w0 w' F):=by
 obtain ⟨c0,c1,c2,c3,t,rfl⟩:∃ c0 c1 c2 c3 t,k=c0::c1::c2::c3::t:=by
  match k,hk with
  |c0::c1::c2::c3::t,_=>exact ⟨c0,c1,c2,c3,t,rfl⟩
 have Hh:=uQ (show Tab.home (c0::c1::c2::c3::t) (2^j)=aj.num [c0,c1,c2,c3]%2^j from rfl);have hB:=h.alloc (.cells (aA (c0::c1::c2::c3::t)).toArray 50);have e0:(w.alloc (.cells (aA (c0::c1::c2::c3::t)).toArray 50)).cell? ⟨w.heap.size,0,none⟩=some (.int .u8 c0.toNat):=hB.cellAt 0 _ rfl;have e1:(w.alloc (.cells (aA (c0::c1::c2::c3::t)).toArray 50)).cell? ⟨w.heap.size,1,none⟩=some (.int .u8 c1.toNat):=hB.cellAt 1 _ rfl;have e2:(w.alloc (.cells (aA (c0::c1::c2::c3::t)).toArray 50)).cell? ⟨w.heap.size,2,none⟩=some (.int .u8 c2.toNat):=hB.cellAt 2 _ rfl;have e3:(w.alloc (.cells (aA (c0::c1::c2::c3::t)).toArray 50)).cell? ⟨w.heap.size,3,none⟩=some (.int .u8 c3.toNat):=hB.cellAt 3 _ rfl;have b0:=c0.toNat_lt;have b1:=c1.toNat_lt;have b2:=c2.toNat_lt;have b3:=c3.toNat_lt;have q1:bits .or .u32 (c0.toNat:Int) ((c1.toNat:Int)*256)=((aj.num [c0,c1]:Nat):Int):=by
  have:=Q9 [c0] c1 1 rfl aN;simpa [aj.num] using this
 have q2:bits .or .u32 ((aj.num [c0,c1]:Nat):Int) ((c2.toNat:Int)*65536)=((aj.num [c0,c1,c2]:Nat):Int):=Q9 [c0,c1] c2 2 rfl aN;have q3:bits .or .u32 ((aj.num [c0,c1,c2]:Nat):Int) ((c3.toNat:Int)*16777216)=((aj.num [c0,c1,c2,c3]:Nat):Int):=Q9 [c0,c1,c2] c3 3 rfl aN;have hn:=aj.yJ [c0,c1,c2,c3];rw [show [c0,c1,c2,c3].length=4 from rfl,show (256:Nat)^4=4294967296 by decide]at hn;have hp:(2:Nat)^j<=2^40:=ao7 aN oQ;have hp1:(2:Nat)^40=1099511627776:=by decide
 have hp0:0<2^j:=Nat.two_pow_pos j;have q4:=VZ (aj.num [c0,c1,c2,c3]) j oQ oQ;generalize aj.num [c0,c1,c2,c3]=N at *
 generalize hC:2^j=C at *
 have hw1:IntKind.i64.wrap ((C:Int)-1)=((C-1:Nat):Int):=by rw [aeU];omega
 have hw2:IntKind.i64.wrap (N:Int)=(N:Int):=adr _ oQ;have hm2:N%C<C:=ao0 _ hp0;clear h hk hC hp hp1;go_enter func179,ntmps179;go_wp2_with fail;go_ret;refine ⟨_,rfl,?_,hB.drop⟩;rw [Hh.o,Int.natCast_emod];rfl
section
variable {o:Nat}
variable {pos:String}
theorem iR (ks:List Value) (hx:a.eval x=.pointer (some ⟨b,o,none⟩)) (hc:∀ j v,ks[j]?=some v->w.cell? ⟨b,o+j,none⟩=some v)
  {d:TypeDesc} (hu:P.underlying ty=some d) (hd:d.isRow=true) (hi:(P.info? ty).map (·.size)=some ks.length)
  (h:wpList P ops Q rest (a.put dst (.agg ks.toArray)) w):wpList P ops Q (⟨dst,.load ty x,t,pos,after,none⟩::rest) a w:=
 wpList_load_mid rfl ty x rfl b o hx ks d hc hu hd hi h
theorem fP (ks:Array Value) (hs:Sat w0 w L) (hx:a.eval x=.pointer (some ⟨b,0,none⟩)) (hy:a.eval y=.agg ks) (hsz:ks.size=cs.size) (u:pW (pt b (.cells cs T (0,0))) (pt b (.cells ks T (0,0))) L L')
  (hi:(P.info? ty).map (·.size)=some ks.size) (h1:ks.toList.all (·.oneCell')=true)
  (hK:∀ w',Sat w0 w' L'->wpList P ops Q rest (a.put dst undef) w'):wpList P ops Q (⟨dst,.store ty x y,t,pos,after,none⟩::rest) a w:=
 gq hs hx hy (ql (by
  show (eU cs 0 ks.toList).toList=_;rw [l9 _ _ _ (by rw [ad4];omega),aeO,aeu,ad8,aew (by rw [ad4,ad4];omega),adV])) u (by show 0+ks.size<=cs.size;omega) hi h1 hK
end
abbrev KE (q:Seg.aV):Value:= .agg #[.int .i64 q.seg,.int .i64 q.at_,.int .i64 q.size]
theorem G6:jF prog 94=some (.agg #[.int .i64 0,.int .i64 0,.int .i64 0]):=by kernel_rfl
structure IQ (l:List (Int×Int)) (n cap:Nat) (cs:Array Value):Prop where
 len:l.length=n+1
 le:n+1<=cap
 size:cap*2<=cs.size
 max:cap<=maxLen
 take:cs.toList.take ((n+1)*2)=eY l
theorem amX (l:List (Int×Int)) (s:Int×Int) (z:Int):(eY (l++[s])).set (l.length*2+1) (.int .i64 z)=eY (l++[(s.1,z)]):=by
 rw [AY,AY];rw [List.set_append_right _ _ (by rw [lD];omega),lD,show l.length*2+1-2*l.length=1 by omega]
 rfl
theorem am1 {α:Type} (l:List α) (k i:Nat) (x:α) (h:i<k):(l.set i x).take k=(l.take k).set i x:=by
 rw [List.take_set]
section
variable {x:Value}{L:Seg.Log}{M:ay}
theorem TA (hl:L.l.getLast?=some s) (h:Sat w0 w (BO p m L lv++F)) :
  ∃ bk n cap cs,lv=.slice (some ⟨bk,0,none⟩) (n+1) cap/\IQ L.l n cap cs/\cs[n*2]?=some (.int .i64 s.1)/\cs[n*2+1]?=some (.int .i64 s.2) /\
   Sat w0 w (nK p m L (.slice (some ⟨bk,0,none⟩) (n+1) cap)::pt bk (.cells cs 105 (0,0))::F):=by
 rw [aeH]at hl;have hlt:=(abm.1 hl).1;obtain ⟨n,hn⟩:∃ n,L.l.length=n+1:=⟨L.l.length-1,by omega⟩;rw [hn,ao8]at hl;obtain ⟨h1,h2⟩:=DF _ _ _ hl;have hS:Sat w0 w (aC 105 2 lv (eY L.l)::nK p m L lv::F):=h.bf;rcases hS.lC with ⟨rfl,hx,_⟩|⟨b,n',cap,cs,rfl,hll,hn',hc,hcm,htk,hp⟩
 ·rw [hx]at h1;simp at h1
 ·rw [lD,hn]at hll;obtain rfl:n'=n+1:=by omega
  refine ⟨b,n,cap,cs,rfl,⟨hn,hn',hc,hcm,htk⟩,?_,?_,hp.bf⟩
  ·rw [aiv];exact kY htk h1
  ·rw [aiv];exact kY htk h2
theorem TB {bk n cap:Nat}{cs:Array Value} (hb:IQ L.l n cap cs) (h:Sat w0 w (pt bk (.cells cs 105 (0,0))::R)) :
  Sat w0 w (aC 105 2 (.slice (some ⟨bk,0,none⟩) (n+1) cap) (eY L.l)::R):=
 Sat.lN h (by rw [lD,hb.len];omega) hb.le hb.size hb.max hb.take
theorem seg_close {bk n cap:Nat}{cs:Array Value} (hl:L.l.getLast?=some s) (hb:IQ L.l n cap cs) (z:Int)
  (h:Sat w0 w (pt bk (.cells (eU cs (n*2+1) [.int .i64 z]) 105 (0,0))::R)) :
  Sat w0 w (aC 105 2 (.slice (some ⟨bk,0,none⟩) (n+1) cap) (eY (L.l.dropLast++[(s.1,z)]))::R):=by
 have e:=Seg.FP hl;have hlen:=Seg.Qp hl;have hn:=hb.len;refine Sat.lN h ?_ hb.le ?_ hb.max ?_
 ·rw [lD,aaL,aer];omega
 ·rw [kW];exact hb.size
 ·simp only [eU,Array.toList_setIfInBounds];rw [am1 _ _ _ _ oQ,hb.take,e,List.dropLast_append_cons,show n=L.l.dropLast.length by omega];simp only [List.dropLast_singleton,adV];exact amX _ _ _
theorem ah0 (hl:L.l.getLast?=some s) (hs:0<=s.2/\s.2<=33554432) (hM:M.Ok K) (kR:K<=1099511627776) (hlen:L.l.length<=1048576) (b:Bs) (hbl:b.length<=1073741824) (hr:Ro w0 F (bF 1 bv (aA b)))
  (h:Sat w0 w (aK p m L::aJ m M::F)) :
  Calls prog 126 #[ptr p,bv] w (aP λv w'=>v=.tuple #[KE (L.grow M b).2.1,errno (L.grow M b).2.2] /\
   Sat w0 w' (aK p m (L.grow M b).1.1::aJ m (L.grow M b).1.2::F)):=by
 obtain ⟨lv,hR⟩:=aK.open h;clear h;obtain ⟨bk,n,cap,cs,rfl,hb,c0,c1,hS⟩:=TA hl hR;clear hR;obtain ⟨ba,bn,bc,rfl,hbn⟩:=Gn hr (A:=emp) (Sat.emp.2 (hS.sel 3 [] rfl rfl));subst hbn
 have Hg:=uQ (show L.grow M b=if (M.append (Seg.name s.1) b).2=0 then (({ L with l:=L.l.dropLast++[(s.1,s.2+(b.length:Int))] },(M.append (Seg.name s.1) b).1),⟨s.1,s.2,b.length⟩,0)
  else ((L,(M.append (Seg.name s.1) b).1),Seg.aV.zero,(M.append (Seg.name s.1) b).2) by unfold Seg.Log.grow;rw [hl])
 have hn:=hb.len;have Hb:=uQ hb;have Hr:=uQ hr;have Hl:=uQ hl;have Hs:=uQ hs;have xJ:=uQ c0;have Hc1:=uQ c1;have oz:=uQ hbl;have hn0:(n:Int)<(n:Int)+1:=oQ;have hwn:IntKind.i64.wrap (n:Int)=(n:Int):=by rw [aeU];omega
 have hwz:IntKind.i64.wrap (s.2+(b.length:Int))=s.2+(b.length:Int):=by rw [aeU];omega
 have Hwz:=uQ hwz;clear hn hb hr hl hs c0 c1 hbl hlen hwz;go_enter func126,ntmps126;go_wp2_with (refine eF G6 aQ rfl ?_;intro q w1 hS1);refine dN [10,11] (λw'=>w'.cell? ⟨p,2,none⟩=some (.slice (some ⟨bk,0,none⟩) (n+1) cap)) au ?_;have hG:w1.drew.cell? ⟨p,2,none⟩=some (.slice (some ⟨bk,0,none⟩) (n+1) cap):=hS1.drew.cellP bJ 2 rfl;refine rP 0 ?_ (y:=aZ);refine rP 1 ?_ (y:=dW);refine rP 2 ?_ (y:=bY);refine rt 3 (h:=?_);refine rP 4 ?_ (y:=aZ);refine rP 5 ?_ (y:=dW);refine rP 6 ?_ (y:=bY);refine rt 7 (h:=?_);refine rP 8 ?_ (y:=(qU ak dw));refine rP 9 ?_ (y:=jH);refine rP 10 ?_ (y:=jJ);refine rP 11 ?_ (y:=iy);refine dH au ?_;clear hG;have hS2:=hS1.drew;generalize w1.drew=w2 at *
 clear hS1 hS;go_wp2_with fail;refine dN [10,11] (λw'=>w'.cell? ⟨p,0,none⟩=some (ptr m)/\w'.cell? ⟨bk,n*2,none⟩=some (.int .i64 s.1)) au ?_;have hG:w2.drew.cell? ⟨p,0,none⟩=some (ptr m)/\w2.drew.cell? ⟨bk,n*2,none⟩=some (.int .i64 s.1):=⟨hS2.drew.cellP bJ 0 rfl,hS2.drew.cellP bJ _ xJ.o⟩;refine rP 0 ?_ (y:=aZ);refine rP 1 ?_ (y:=dW);refine rP 2 ?_ (y:=bY);refine rt 3 (h:=?_);refine rP 4 ?_ (y:=aZ);refine rP 5 ?_ (y:=dW);refine rP 6 ?_ (y:=bY);refine rt 7 (h:=?_);refine rP 9 ?_ (y:=aZ);refine bW 8 ak au (λK hK=>?_);clear hG
 (refine qF au ak ?_)
 refine (yY s.1 hS2.drew).mono ?_;rintro e w3 ⟨v,rfl,rfl,hS3⟩;refine hK _ _ (.inr (.inl ⟨hS3.cellP bJ 0 rfl,hS3.cellP bJ _ xJ.o⟩)) ?_;clear hK K;refine bW 10 ak au (λK hK=>?_)
 (refine wL au ak ak ak ?_)
 refine (IZ hM kR (Sat.pk aQ) _ b yI0).mono ?_;rintro e w4 ⟨v,rfl,rfl,hS4⟩;refine hK _ _ (.inl rfl) ?_;clear hK K;refine rP 11 ?_ (y:=iy);refine dH au ?_;clear hS3 hS2 Hr;generalize M.append (Seg.name s.1) b=r at *
 obtain ⟨M2,ee⟩:=r;by_cases he:ee=0
 ·subst he;have hfin:=uQ (Hg.o.trans (acg rfl));have e1:w4.cell? ⟨bk,n*2+1,none⟩=some (.int .i64 s.2):=hS4.cellP bJ _ Hc1.o;have hfit:=Hb.o.size;have hle:=Hb.o.le;have hst:=uQ (show n*2+1+(Value.int .i64 (s.2+(b.length:Int))).cells.size<=cs.size by show n*2+1+1<=cs.size;omega);have hwz:=Hwz.o;clear hfit hle;go_wp2_with (refine aoB ah ?_);refine ⟨gq (b:=bk) (o:=n*2+1) (v:= .int .i64 (s.2+(b.length:Int))) aQ ah ah rfl fV hst.o au ah ?_⟩;intro w5 hS5
  have e0:w5.cell? ⟨bk,n*2,none⟩=some (.int .i64 s.1):=hS5.cellP bJ _ (by
   show (cs.setIfInBounds (n*2+1) _)[n*2]?=_;rw [apR oQ];exact xJ.o)
  clear e1 hst hwz;go_wp2_with ((with_reducible refine dh ⟨?_⟩);refine gq aQ ah ak pQ fV bI au ah ?_;intro wS hS);refine ⟨rfl,_,oW rfl aQ ah bJ underlying94 rfl au,_,rfl,?_,?_⟩
  ·rw [hfin.o];rfl
  ·rw [hfin.o];have h6:=seg_close Hl.o Hb.o _ (Sat.pk hS);exact aK.shut2 (lv:= .slice (some ⟨bk,0,none⟩) (n+1) cap) (Sat.sb h6)
 ·have heb:(ee==0)=false:=aiM he;have hfin:=uQ (Hg.o.trans (abj he));clear he;go_wp2_with ((with_reducible refine dh ⟨?_⟩);refine gq aQ ah ak pQ fV bI au ah ?_;intro wS hS);refine ⟨rfl,_,oW rfl aQ ah bJ underlying94 rfl au,_,rfl,?_,?_⟩
  ·rw [hfin.o];rfl
  ·rw [hfin.o];have h6:=TB Hb.o (Sat.pk hS);exact aK.shut2 (lv:= .slice (some ⟨bk,0,none⟩) (n+1) cap) (Sat.sb h6)
end
end Go.Proofs.Y
namespace Go.Seg
open Go.ay
theorem Log.acQ {L:Log} (M:ay) (h:L.on=false):L.shut M=((L,M),0):=by
 unfold Log.shut;split
 ·rfl
 ·rw [abj (by rw [h];decide)]
theorem Log.Ok.last {L:Log} (h:L.Ok) (hon:L.on=true):∃ s,L.l.getLast?=some s:=by
 cases hl:L.l.getLast? with
 |none=>exact absurd (ahP.1 hl) (h.on hon)
 |some s=>exact ⟨s,rfl⟩
theorem Log.acR {L:Log} (M:ay){s:Int×Int} (hl:L.l.getLast?=some s) (h:L.on=true) :
  L.shut M=if (M.sync (name s.1)).2=0 then (({ L with on:=false },(M.sync (name s.1)).1),0) else ((L,(M.sync (name s.1)).1),(M.sync (name s.1)).2):=by
 unfold Log.shut;rw [hl];simp only [h,apa]
end Go.Seg
namespace Go.Proofs.Y
open Go.ay
section
variable {x:Value}{L:Seg.Log}{M:ay}
theorem am6 (hL:L.Ok) (hM:M.Ok K) (h:Sat w0 w (aK p m L::aJ m M::F)) :
  Calls prog 170 #[ptr p] w (aP λv w'=>v=errno (L.shut M).2/\Sat w0 w' (aK p m (L.shut M).1.1::aJ m (L.shut M).1.2::F)):=by
 cases hon:L.on
 ·obtain ⟨lv,hR⟩:=aK.open h;refine (am2 hon hR).mono ?_;rintro e w1 ⟨v,rfl,rfl,rfl⟩;rw [Seg.Log.acQ M hon];exact ⟨_,rfl,rfl,h⟩
 ·obtain ⟨s,hl⟩:=hL.last hon;obtain ⟨lv,hR⟩:=aK.open h;clear h;have hlen:=hL.len;obtain ⟨bk,n,cap,cs,rfl,hb,c0,c1,hS⟩:=TA hl hR;clear hR c1;have hn:=hb.len;have Hg:=uQ (Seg.Log.acR M hl hon);have Hb:=uQ hb;have Hl:=uQ hl;have xJ:=uQ c0;have hn0:(n:Int)<(n:Int)+1:=oQ;have hwn:IntKind.i64.wrap (n:Int)=(n:Int):=by rw [aeU];omega
  have e3:w.cell? ⟨p,3,none⟩=some (.bool true):=hS.cellP bJ 3 (by rw [<-hon];rfl);clear hn hb hl c0 hlen hon;go_enter func170,ntmps170;go_wp2_with fail;refine dN [18,19] (λw'=>w'.cell? ⟨p,0,none⟩=some (ptr m)/\w'.cell? ⟨p,2,none⟩=some (.slice (some ⟨bk,0,none⟩) (n+1) cap)/\w'.cell? ⟨bk,n*2,none⟩=some (.int .i64 s.1)) au ?_;have hG:w.drew.cell? ⟨p,0,none⟩=some (ptr m)/\w.drew.cell? ⟨p,2,none⟩=some (.slice (some ⟨bk,0,none⟩) (n+1) cap)/\w.drew.cell? ⟨bk,n*2,none⟩=some (.int .i64 s.1):=⟨hS.drew.cellP bJ 0 rfl,hS.drew.cellP bJ 2 rfl,hS.drew.cellP bJ _ xJ.o⟩;refine rP 0 ?_ (y:=aZ);refine rP 1 ?_ (y:=dW);refine rP 2 ?_ (y:=bY);refine rt 3 (h:=?_);refine rP 4 ?_ (y:=aZ);refine rP 5 ?_ (y:=dW);refine rP 6 ?_ (y:=bY);refine rt 7 (h:=?_);refine rP 8 ?_ (y:=aZ);refine rP 9 ?_ (y:=dW);refine rP 10 ?_ (y:=bY);refine rt 11 (h:=?_)
  refine rP 12 ?_ (y:=(qU ak dw));refine rP 13 ?_ (y:=jH);refine rP 14 ?_ (y:=jJ);refine rP 15 ?_ (y:=bY);refine rt 16 (h:=?_);clear hG e3;refine bW 17 ak au (λK hK=>?_)
  (refine qF au ak ?_)
  refine (yY s.1 hS.drew).mono ?_;rintro e w3 ⟨v,rfl,rfl,hS3⟩;refine hK _ _ (.inr (.inl ⟨hS3.cellP bJ 0 rfl,hS3.cellP bJ 2 rfl,hS3.cellP bJ _ xJ.o⟩)) ?_;clear hK K;refine bW 18 ak au (λK hK=>?_)
  (refine iC au ak ak ?_)
  refine (LJ hM (Sat.pk aQ) _).mono ?_;rintro e w4 ⟨v,rfl,rfl,hS4⟩;refine hK _ _ (.inl rfl) ?_;clear hK K;refine rP 19 ?_ (y:=iy);refine dH au ?_;clear hS3 hS;generalize M.sync (Seg.name s.1)=r at *
  obtain ⟨M2,ee⟩:=r;by_cases he:ee=0
  ·subst he;have hfin:=uQ (Hg.o.trans (acg rfl));go_wp2_with ((with_reducible refine dh ⟨?_⟩);refine gq aQ ah ak pQ fV bI au ah ?_;intro wS hS);go_ret;refine ⟨errno 0,rfl,by rw [hfin.o],?_⟩;rw [hfin.o];have h6:=TB Hb.o (Sat.pk hS);exact aK.shut2 (lv:= .slice (some ⟨bk,0,none⟩) (n+1) cap) (Sat.sb h6)
  ·have heb:(ee==0)=false:=aiM he;have hfin:=uQ (Hg.o.trans (abj he));clear he;go_wp2_with ((with_reducible refine dh ⟨?_⟩);refine gq aQ ah ak pQ fV bI au ah ?_;intro wS hS);go_ret;refine ⟨errno ee,rfl,by rw [hfin.o],?_⟩;rw [hfin.o];have h6:=TB Hb.o (Sat.pk hS4);exact aK.shut2 (lv:= .slice (some ⟨bk,0,none⟩) (n+1) cap) (Sat.sb h6)
end
end Go.Proofs.Y
namespace Go.Seg
open Go.ay
theorem Log.TF {L:Log}{M:ay}{K:Nat} (h:M.Ok K):(L.shut M).1.2.Ok (K+1):=by
 unfold Log.shut;split;· exact h.mono (ai7 K)
 split
 ·split <;> exact h.sync _
 ·exact h.mono (ai7 K)
theorem Log.afK (L:Log) (M:ay) (b:Bs):L.begin M b=if (L.shut M).2=0 then (L.shut M).1.1.jC (L.shut M).1.2 b else ((L.shut M).1,aV.zero,(L.shut M).2):=rfl
theorem J7 (n:Int):(name n).size<=9223372036854775807:=by
 unfold name;split
 ·decide
 ·show (lead++iW n.toNat 8).toArray.size<=_;rw [abn,aaL,wJ];decide
end Go.Seg
namespace Go.Proofs.Y
open Go.ay
section
variable {x:Value}{L:Seg.Log}{M:ay}
theorem ajG (hL:L.Ok) (h:Sat w0 w (aK p m L::F)) :
  Calls prog 171 #[ptr p] w (aP λv w'=>v=.int .i64 L.next/\Sat w0 w' (aK p m L::F)):=by
 obtain ⟨lv,hR⟩:=aK.open h;refine (anh hL.len hL.nums hR).mono ?_;rintro e w1 ⟨v,rfl,rfl,hS⟩;exact ⟨_,rfl,rfl,aK.shut2 hS⟩
theorem amY (l:List (Int×Int)) (n z:Int):eY l++[.int .i64 n,.int .i64 z]=eY (l++[(n,z)]):=by rw [AY];rfl
theorem WI (hL:L.Ok) (hM:M.Ok K) (kR:K+4<=1099511627776) (b:Bs) (hb0:b≠[]) (hbl:b.length<=16777216) (hr:Ro w0 F (bF 1 bv (aA b)))
  (h:Sat w0 w (aK p m L::aJ m M::F)) :
  Calls prog 127 #[ptr p,bv] w (aP λv w'=>v=.tuple #[KE (L.begin M b).2.1,errno (L.begin M b).2.2] /\
   Sat w0 w' (aK p m (L.begin M b).1.1::aJ m (L.begin M b).1.2::F)):=by
 obtain ⟨ba,bn,bc,rfl,hbn⟩:=Gn hr (A:=emp) (Sat.emp.2 (h.sel 2 [] rfl rfl));subst hbn;obtain ⟨i,hi,hz0,hz1,hz2⟩:=vC;have Hg:=uQ (Seg.Log.afK L M b);have HM:=uQ (Seg.Log.TF (L:=L) hM);have HL:=uQ (hL.shut M);have Hr:=uQ hr;have Hb0:=uQ hb0;have oz:=uQ hbl;clear hr hb0 hbl;go_enter func127,ntmps127;go_wp2_with (refine eF G6 aQ rfl ?_;intro q w1 hS1);refine (am6 hL hM (Sat.sb aQ)).mono ?_;rintro e w2 ⟨v,rfl,rfl,hS2⟩;clear hS1 h hL hM;generalize L.shut M=S at *
 obtain ⟨⟨L1,M1⟩,e1⟩:=S;by_cases he:e1=0;rotate_left
 ·have heb:(e1==0)=false:=aiM he;have hfin:=uQ (Hg.o.trans (abj he));clear he;go_wp2_with ((with_reducible refine dh ⟨?_⟩);refine gq aQ ah ak pQ fV bI au ah ?_;intro wS hS);refine ⟨rfl,_,oW rfl aQ ah bJ underlying94 rfl au,_,rfl,?_,?_⟩
  ·rw [hfin.o];rfl
  ·rw [hfin.o];exact Sat.sb hS
 subst he;have H1:=uQ (Hg.o.trans (acg rfl));clear Hg;go_wp2_with fail;refine (ajG HL.o (Sat.pk aQ)).mono ?_;rintro e w3 ⟨v,rfl,rfl,hS3⟩;clear hS2;have hs1:=uQ HL.o.next;have hfr:=uQ HL.o.fresh;have hln:=uQ HL.o.len;unfold Seg.Log.jC at H1;have IC:=uQ (Seg.J7 L1.next);by_cases hn:1048576<=L1.next
 ·have hfin:=uQ (H1.o.trans (acg hn));generalize L1.next=n at *
  go_wp2_with ((with_reducible refine dh ⟨?_⟩);refine gq aQ ah ak pQ fV bI au ah ?_;intro wS hS);refine ⟨rfl,_,oW rfl aQ ah bJ underlying94 rfl au,_,rfl,?_,?_⟩
  ·rw [hfin.o];rfl
  ·rw [hfin.o];exact Sat.sb hS
 have H2:=uQ (H1.o.trans (abj hn));clear H1;have Hn:=uQ hn;have hnd:¬ 1048576<=L1.next:=hn;clear hn;have hnm:=yY L1.next hS3;generalize hnn:L1.next=n at *
 have BL:=uQ hnn;clear hnn;go_wp2_with fail;refine hnm.mono ?_;rintro e w4 ⟨v,rfl,rfl,hS4⟩;clear hnm hS3 hnd;generalize Seg.name n=nm at *
 obtain ⟨lv,hR⟩:=aK.oV (Sat.pk aQ);have e0:w4.cell? ⟨p,0,none⟩=some (ptr m):=hR.cellP bJ 0 rfl;go_wp2_with fail;refine (OM HM.o oQ (Sat.pk aQ) nm IC.o).mono ?_;rintro e w5 ⟨v,rfl,rfl,hS5⟩;have uN:=uQ (HM.o.create nm);clear hS4 hR e0;generalize M1.create nm=C at *
 obtain ⟨M2,e2⟩:=C;by_cases he:e2=0;rotate_left
 ·have heb:(e2==0)=false:=aiM he;have hfin:=uQ (H2.o.trans (acg he));clear he;go_wp2_with ((with_reducible refine dh ⟨?_⟩);refine gq aQ ah ak pQ fV bI au ah ?_;intro wS hS);refine ⟨rfl,_,oW rfl aQ ah bJ underlying94 rfl au,_,rfl,?_,?_⟩
  ·rw [hfin.o];rfl
  ·rw [hfin.o];exact aK.shut2 (lv:=lv) (Sat.sb hS)
 subst he;have H3:=uQ (H2.o.trans (abj (λh=>h rfl)));clear H2;go_wp2_with fail;refine dN [9,10] (λw'=>w'.cell? ⟨p,0,none⟩=some (ptr m)) au ?_;have hG:w5.drew.cell? ⟨p,0,none⟩=some (ptr m):=hS5.drew.cellP bJ 0 rfl;refine rP 0 ?_ (y:=aZ);refine rP 1 ?_ (y:=dW);refine rP 2 ?_ (y:=bY);refine rt 3 (h:=?_);refine rP 4 ?_ (y:=aZ);refine rP 7 ?_ (y:=aZ);refine bW 5 ak au (λK hK=>?_);go_simp;have hB1:=hS5.drew.alloc (.cells #[.int .u8 72,.int .u8 79,.int .u8 65,.int .u8 82,.int .u8 68,.int .u8 83,.int .u8 69,.int .u8 71] 5);refine hK _ _ (.inr (.inl (hB1.cellP bJ 0 rfl))) ?_;clear hK K hG hB1;refine bW 6 ak au (λK hK=>?_)
 have hcv:(convert 39 39 (.slice (some ⟨w5.heap.size,0,none⟩) 8 8)).run prog ((w5.alloc (.cells #[.int .u8 72,.int .u8 79,.int .u8 65,.int .u8 82,.int .u8 68,.int .u8 83,.int .u8 69,.int .u8 71] 5)).drew)=.ok (.slice (some ⟨w5.heap.size,0,none⟩) 8 8) ((w5.alloc (.cells #[.int .u8 72,.int .u8 79,.int .u8 65,.int .u8 82,.int .u8 68,.int .u8 83,.int .u8 69,.int .u8 71] 5 (8,9))).drew):=
  Lib.run_convert_bytes_const (P:=prog) w5.drew 39 5 #[.int .u8 72,.int .u8 79,.int .u8 65,.int .u8 82,.int .u8 68,.int .u8 83,.int .u8 69,.int .u8 71] 8 8 underlying39 underlying5
 have hB:=(hS5.alloc (.cells #[.int .u8 72,.int .u8 79,.int .u8 65,.int .u8 82,.int .u8 68,.int .u8 83,.int .u8 69,.int .u8 71] 5 (8,9))).drew;go_simp;refine hK _ _ (.inr (.inl (hB.cellP bJ 0 rfl))) ?_;clear hK K;have hrd:=Hr.o _ (hB.sb);have hold:bF 1 (.slice (some ⟨w5.heap.size,0,none⟩) 8 8) (aA Seg.mag) ((w5.alloc (.cells #[.int .u8 72,.int .u8 79,.int .u8 65,.int .u8 82,.int .u8 68,.int .u8 83,.int .u8 69,.int .u8 71] 5 (8,9))).drew):=by
  refine ⟨_,8,8,rfl,rfl,λj x hj=>⟨_,rfl,?_⟩⟩;rw [rC];have hjl:j<Seg.mag.length:=by
   have:=(abm.1 hj).1;rw [aX]at this;exact this
  have hx:=(J6 (l:=Seg.mag) hB hjl 0).1;unfold aA at hj;rw [adW,aay hjl]at hj;cases hj;exact hx
 have hy0:aA b≠[]:=by
  intro h;apply Hb0.o;unfold aA at h;exact List.map_eq_nil_iff.1 h
 have h63:(aA Seg.mag).length+(aA b).length<=maxLen:=by rw [aX,aX];have:=oz.o;unfold maxLen Seg.mag;simp;omega
 have hby:((aA Seg.mag).length+(aA b).length)*i.bytes<=140737488355328:=by rw [aX,aX,hz2];have:=oz.o;unfold Seg.mag;simp;omega
 refine bW 8 ak au (λK hK=>?_);refine anu (w0:=w0) (xs:=aA Seg.mag) (b:=w5.heap.size) (n:=8) (cap:=8) ah _ _ _ ah _ i _ underlying39 hi hz0 hz1 ah rfl (abl _) hold hB.drop ah ah hrd hy0 h63 hby ?_;intro b4 n4 k4 w6 hS6;clear hcv hrd hold hy0 h63 hby hB;have hS6:Sat w0 w6 (bQ (.slice (some ⟨b4,0,none⟩) n4 k4) (Seg.mag++b)::aJ m M2::pt q (.cells #[.int .i64 0,.int .i64 0,.int .i64 0] 94)::nK p m L1 lv::aC 105 2 lv (eY L1.l)::F):=by
  have e:aA Seg.mag++aA b=aA (Seg.mag++b):=by unfold aA;rw [adU]
  rw [e]at hS6;exact Sat.sb hS6
 refine hK _ _ (.inr (.inl (hS6.cellP bJ 0 rfl))) ?_;clear hK K hS5;refine bW 9 ak au (λK hK=>?_)
 (refine wL au ak ak ak ?_)
 refine (IZ uN.o oQ (Sat.pk aQ) nm (Seg.mag++b) yI0).mono ?_;rintro e w7 ⟨v,rfl,rfl,hS7⟩;refine hK _ _ (.inl rfl) ?_;clear hK K;refine rP 10 ?_ (y:=iy);refine dH au ?_;clear hS6;have HM3:=uQ (uN.o.append nm (Seg.mag++b));generalize M2.append nm (Seg.mag++b)=D at *
 obtain ⟨M3,e3⟩:=D;by_cases he:e3=0
 ·subst he;have hfin:=uQ (H3.o.trans (acg rfl));have c2:w7.cell? ⟨p,2,none⟩=some lv:=hS7.cellP bJ 2 rfl;have hwl:IntKind.i64.wrap (8+(b.length:Int))=8+(b.length:Int):=by rw [aeU];have:=oz.o;omega
  obtain ⟨ii,hii,hy0,hy1,hy2⟩:=info_parts ZK;have h7:=hS7.alloc (.cells #[.int .i64 n,.int .i64 (8+(b.length:Int))] 105);have hoc:∀ u∈(#[.int .i64 n,.int .i64 (8+(b.length:Int))]:Array Value).toList,u.oneCell'=true:=by
   intro u hu;simp only [ad5,ah4,apX]at hu;rcases hu with rfl|rfl <;> rfl
  have h63:(eY L1.l).length+2<=maxLen:=by rw [lD];have:=hln.o;unfold maxLen;omega
  have hby:((eY L1.l).length+2)*ii.bytes<=140737488355328:=by rw [lD,hy2];have:=hln.o;omega
  have h8:Sat w0 _ (aC 105 2 lv (eY L1.l)::nK p m L1 lv::pt q (.cells #[.int .i64 0,.int .i64 0,.int .i64 0] 94)::aJ m M3::F):=h7.sb;have hwf:IntKind.i64.wrap (L1.fresh+1)=L1.fresh+1:=by rw [aeU];have:=hfr.o;have:=hln.o;omega
  go_wp2_with (first
   |(at_builtin;refine zo (w0:=w0) ah _ _ _ ah _ ii _ underlying97 hii hy0 hy1 ah oQ ah ah hoc h8 (AU _ _ _ 2 1 1 ah) h63 hby ?_;intro v2 w8 mO hne;obtain ⟨ab,an,ac,rfl⟩:=hne yF0;clear h8 h7 hS7 c2 hoc h63 hby hne)
   |((with_reducible refine bP ⟨?_⟩);refine fZ aQ ah bJ bI ak au ?_)|((with_reducible refine dh ⟨?_⟩);refine gq aQ ah ak pQ fV bI au ah ?_;intro wS hS))
  refine ⟨rfl,_,oW rfl aQ ah bJ underlying94 rfl au,_,rfl,?_,?_⟩
  ·rw [hfin.o];rfl
  ·rw [hfin.o];have e:eY L1.l++[.int .i64 n,.int .i64 (8+(b.length:Int))]=eY (L1.l++[(n,8+(b.length:Int))]):=amY _ _ _;rw [e]at hS;exact aK.shut2 (lv:= .slice (some ⟨ab,0,none⟩) an ac) (Sat.sb hS)
 have H4:=uQ (H3.o.trans (abj he));have heb:(e3==0)=false:=aiM he;clear he H3;by_cases he:e3=11
 ·subst he;have H5:=uQ (H4.o.trans (acg rfl));have e0:w7.cell? ⟨p,0,none⟩=some (ptr m):=hS7.cellP bJ 0 rfl;go_wp2_with fail;refine (Dv HM3.o oQ (Sat.pk aQ) nm).mono ?_;rintro e w8 ⟨v,rfl,rfl,mO⟩;clear hS7 e0;generalize M3.remove nm=E at *
  obtain ⟨M4,e4⟩:=E;by_cases he:e4=0
  ·subst he;go_wp2_with ((with_reducible refine dh ⟨?_⟩);refine gq aQ ah ak pQ fV bI au ah ?_;intro wS hS);refine ⟨rfl,_,oW rfl aQ ah bJ underlying94 rfl au,_,rfl,?_,?_⟩
   ·rw [H5.o];rfl
   ·rw [H5.o];exact aK.shut2 (lv:=lv) (Sat.sb hS)
  ·have heb:(e4==0)=false:=aiM he;have H6:=uQ (H5.o.trans (by rw [abj he]));clear he;go_wp2_with ((with_reducible refine dh ⟨?_⟩);refine gq aQ ah ak pQ fV bI au ah ?_;intro wS hS);refine ⟨rfl,_,oW rfl aQ ah bJ underlying94 rfl au,_,rfl,?_,?_⟩
   ·rw [H6.o];rfl
   ·rw [H6.o];exact aK.shut2 (lv:=lv) (Sat.sb hS)
 ·have hfin:=uQ (H4.o.trans (abj he));have apf:(e3==11)=false:=aiM he;clear he H4;go_wp2_with ((with_reducible refine dh ⟨?_⟩);refine gq aQ ah ak pQ fV bI au ah ?_;intro wS hS);refine ⟨rfl,_,oW rfl aQ ah bJ underlying94 rfl au,_,rfl,?_,?_⟩
  ·rw [hfin.o];rfl
  ·rw [hfin.o];exact aK.shut2 (lv:=lv) (Sat.sb hS)
end
end Go.Proofs.Y
namespace Go.Seg
open Go.ay
theorem XL (x:aj.aI) (h:(aj.encode x).2=0):(aj.encode x).1≠[]:=by
 unfold aj.encode at *
 split at h
 ·rename_i hc;exact absurd h hc
 ·rename_i hc;rw [abj hc];intro e;have:=aey List.length e;simp [aj.jk]at this
theorem Log.IY {L:Log}{M:ay}{x:aj.aI} (h:(aj.encode x).2≠0):L.append M x=((L,M),aV.zero,(aj.encode x).2):=by
 unfold Log.append;rw [acg h]
theorem Log.xX {L:Log}{M:ay}{x:aj.aI} (h:(aj.encode x).2=0) (hf:L.fits (aj.encode x).1.length=true):L.append M x=L.grow M (aj.encode x).1:=by
 unfold Log.append;rw [abj (λhh=>hh h),acg hf]
theorem Log.wC {L:Log}{M:ay}{x:aj.aI} (h:(aj.encode x).2=0) (hf:L.fits (aj.encode x).1.length=false):L.append M x=L.begin M (aj.encode x).1:=by
 unfold Log.append;rw [abj (λhh=>hh h),abj (by rw [hf];decide)]
theorem Log.ahq {L:Log} (n:Nat) (h:L.on=false):L.fits n=false:=by unfold Log.fits;rw [h];rfl
theorem Log.ahr {L:Log}{s:Int×Int} (n:Nat) (h:L.on=true) (hl:L.l.getLast?=some s):L.fits n=decide (s.2+n<=L.limit):=by
 unfold Log.fits;rw [h,hl];rfl
end Go.Seg
namespace Go.Proofs.Y
open Go.ay
section
variable {x:Value}{L:Seg.Log}{M:ay}
theorem acM (hl:L.l.getLast?=some s) (h:Sat w0 w (nK p m L lv::aC 105 2 lv (eY L.l)::F)) :
  ∃ bk n cap cs,lv=.slice (some ⟨bk,0,none⟩) (n+1) cap/\IQ L.l n cap cs/\cs[n*2]?=some (.int .i64 s.1)/\cs[n*2+1]?=some (.int .i64 s.2) /\
   Sat w0 w (nK p m L (.slice (some ⟨bk,0,none⟩) (n+1) cap)::pt bk (.cells cs 105 (0,0))::F):=TA hl h
theorem CU (e:aj.aI) (hk:e.key.length=32) (da:Option Addr) (dc:Nat) (hd:Ro w0 F (bF 1 (.slice da e.data.length dc) (aA e.data))) (hH:Ro w0 F Half) (tN:e.data.length<=1099511627)
  (hL:L.Ok) (hM:M.Ok K) (kR:K+4<=1099511627776) (h:Sat w0 w (aK p m L::aJ m M::F)) :
  Calls prog 73 #[ptr p,.agg (dQ e (.slice da e.data.length dc))] w (aP λv w'=>v=.tuple #[KE (L.append M e).2.1,errno (L.append M e).2.2] /\
   Sat w0 w' (aK p m (L.append M e).1.1::aJ m (L.append M e).1.2::F)):=by
 obtain ⟨lv,hR⟩:=aK.oV h;clear h;have hsz:=fF e (.slice da e.data.length dc) hk;have iZ:=uQ hsz;have Hd:=uQ hd;have HH:=uQ hH;have Hk:=uQ hk;have HLd:=uQ tN;have HL:=uQ hL;have HM:=uQ hM;have iV:=uQ hL.len;have Ef:=uQ (show (aj.encode e).1.length<=16425 from Seg.encode_len e hk);have qZ:=uQ (Seg.XL e);have A0:=uQ (Seg.Log.IY (L:=L) (M:=M) (x:=e));have A1:=uQ (Seg.Log.xX (L:=L) (M:=M) (x:=e));have A2:=uQ (Seg.Log.wC (L:=L) (M:=M) (x:=e));clear hsz hd hH hk tN hL hM;go_enter func73,ntmps73
 go_wp2_with (first
  |((with_reducible refine fD ⟨?_⟩);refine fE aQ ah (cs:=dQ e (.slice da e.data.length dc)) rfl ?_;intro q3 w1 hS1)
  |(refine eF G6 aQ rfl ?_;intro q w2 hS2))
 refine (uq (Sat.pk aQ)).mono ?_;rintro ee w3 ⟨v,rfl,rfl,rfl⟩;clear hS1 hR;go_wp2_with ((with_reducible refine bP ⟨?_⟩);refine iQ aQ ah bJ underlying52 ah (by rw [iZ.o];kernel_rfl) ?_);refine (ag3 e Hk.o da dc yI0 yI0 hS2 HLd.o).mono ?_;rintro ee w3 ⟨v,rfl,bv,rfl,⟨ba,bn,bc,rfl⟩,hS3⟩;clear hS2;generalize hE:aj.encode e=E at *
 have HE:=uQ hE;clear hE;obtain ⟨b,e1⟩:=E;have Il:Hid (b.length<=16425):=Ef;by_cases he:e1=0;rotate_left
 ·have heb:(e1==0)=false:=aiM he;have hfin:=uQ (A0.o he);clear he;go_wp2_with ((with_reducible refine dh ⟨?_⟩);refine gq aQ ah ak pQ fV bI au ah ?_;intro wS hS);refine ⟨rfl,_,oW rfl aQ ah bJ underlying94 rfl au,_,rfl,?_,?_⟩
  ·rw [hfin.o];rfl
  ·rw [hfin.o];exact aK.shut2 (lv:=lv) (Sat.sb hS)
 subst he;have hbn:bn=b.length:=by
  obtain ⟨a',n',c',he,hl,_⟩:=Sat.rd hS3;cases he;rw [aX,aes]at hl;exact hl.symm
 subst hbn;have Hb0:=uQ (qZ.o rfl);clear A0 qZ;cases hon:L.on
 ·have hf:=Seg.Log.ahq b.length hon;have hfin:=uQ (A2.o rfl hf);have c3:w3.cell? ⟨p,3,none⟩=some (.bool false):=hS3.cellP bJ 3 (by rw [<-hon];rfl);clear hf A1 A2 hon;go_wp2_with fail;have hS4:=hS3.drew;have c3':w3.drew.cell? ⟨p,3,none⟩=some (.bool false):=c3
  go_region
  clear c3 c3';have hS5:Sat w0 _ (aK p m L::aJ m M::_):=aK.shut2 (lv:=lv) (hS4.sb);go_wp2_with fail;refine (WI HL.o HM.o kR b Hb0.o (by have:=Il.o;omega) yI0 hS5).mono ?_;rintro ee w5 ⟨v,rfl,rfl,hS6⟩;clear hS4 hS5 hS3;go_wp2_with ((with_reducible refine dh ⟨?_⟩);refine gq aQ ah ak pQ fV bI au ah ?_;intro wS hS);refine ⟨rfl,_,oW rfl aQ ah bJ underlying94 rfl au,_,rfl,?_,?_⟩
  ·rw [hfin.o];rfl
  ·rw [hfin.o];exact Sat.sb hS
 ·obtain ⟨s,hl⟩:=HL.o.last hon;obtain ⟨bk,n,cap,cs,rfl,hb,c0,c1,hB⟩:=acM hl (hS3.sb);have hf:=Seg.Log.ahr b.length hon hl;have hs:=HL.o.sizes s (ae5 hl);have hlim:=HL.o.limit;have hn:=hb.len;have hln:=iV.o;have hn0:(n:Int)<(n:Int)+1:=oQ;have hwn:IntKind.i64.wrap (n:Int)=(n:Int):=by rw [aeU];omega
  have hwz:IntKind.i64.wrap (s.2+(b.length:Int))=s.2+(b.length:Int):=by rw [aeU];have:=Il.o;omega
  have g1:w3.drew.cell? ⟨p,1,none⟩=some (.int .i64 L.limit):=hB.drew.cellP bJ 1 rfl;have g2:w3.drew.cell? ⟨p,2,none⟩=some (.slice (some ⟨bk,0,none⟩) (n+1) cap):=hB.drew.cellP bJ 2 rfl;have g3:w3.drew.cell? ⟨p,3,none⟩=some (.bool true):=hB.drew.cellP bJ 3 (by rw [<-hon];rfl);have g4:w3.drew.cell? ⟨bk,n*2+1,none⟩=some (.int .i64 s.2):=hB.drew.cellP bJ _ c1;have Hl:=uQ hl;have Hb:=uQ hb;have Hs:=uQ hs;clear hs hlim hn hln hl hb c0 c1 hon hB;by_cases hfit:s.2+(b.length:Int)<=L.limit
  ·have hfd:decide (s.2+(b.length:Int)<=L.limit)=true:=aeb hfit;have hfin:=uQ (A1.o rfl (hf.trans hfd));clear hf hfd A1 A2;go_wp2_with fail;have hS4:=hS3.drew
   go_region
   clear g1 g2 g3 g4;have hS5:Sat w0 _ (aK p m L::aJ m M::_):=aK.shut2 (lv:= .slice (some ⟨bk,0,none⟩) (n+1) cap) (hS4.sb);go_wp2_with fail;refine (ah0 Hl.o Hs.o HM.o oQ iV.o b (by have:=Il.o;omega) yI0 hS5).mono ?_;rintro ee w5 ⟨v,rfl,rfl,hS6⟩;clear hS4 hS5 hS3;go_wp2_with ((with_reducible refine dh ⟨?_⟩);refine gq aQ ah ak pQ fV bI au ah ?_;intro wS hS);refine ⟨rfl,_,oW rfl aQ ah bJ underlying94 rfl au,_,rfl,?_,?_⟩
   ·rw [hfin.o];rfl
   ·rw [hfin.o];exact Sat.sb hS
  ·have hfd:decide (s.2+(b.length:Int)<=L.limit)=false:=ad2 hfit;have hfin:=uQ (A2.o rfl (hf.trans hfd));clear hf hfd A1 A2;go_wp2_with fail;have hS4:=hS3.drew
   go_region
   clear g1 g2 g3 g4;have hS5:Sat w0 _ (aK p m L::aJ m M::_):=aK.shut2 (lv:= .slice (some ⟨bk,0,none⟩) (n+1) cap) (hS4.sb);go_wp2_with fail;refine (WI HL.o HM.o kR b Hb0.o (by have:=Il.o;omega) yI0 hS5).mono ?_;rintro ee w5 ⟨v,rfl,rfl,hS6⟩;clear hS4 hS5 hS3;go_wp2_with ((with_reducible refine dh ⟨?_⟩);refine gq aQ ah ak pQ fV bI au ah ?_;intro wS hS);refine ⟨rfl,_,oW rfl aQ ah bJ underlying94 rfl au,_,rfl,?_,?_⟩
   ·rw [hfin.o];rfl
   ·rw [hfin.o];exact Sat.sb hS
end
end Go.Proofs.Y
namespace Go.Seg
open Go.ay
theorem Log.ah1 {L:Log}{M:ay}{K:Nat} (h:M.Ok K) (b:Bs):(L.grow M b).1.2.Ok (K+1):=by
 unfold Log.grow;split;· exact h.mono (ai7 K)
 split <;> exact h.append _ _
theorem Log.afJ {L:Log}{M:ay}{K:Nat} (h:M.Ok K) (b:Bs):(L.jC M b).1.2.Ok (K+3):=by
 have h1:=h.create (name L.next);have h2:=h1.append (name L.next) (mag++b);have h3:=h2.remove (name L.next);unfold Log.jC;split;· exact h.mono oQ
 split;· exact h1.mono oQ
 split;· exact h2.mono oQ
 split;· exact h3
 exact h2.mono oQ
theorem Log.V9 {L:Log}{M:ay}{K:Nat} (h:M.Ok K) (x:aj.aI):(L.append M x).1.2.Ok (K+4):=by
 unfold Log.append;split;· exact h.mono oQ
 split;· exact (Log.ah1 h _).mono oQ
 unfold Log.begin;split
 ·exact Log.afJ (Log.TF h) _
 ·exact (Log.TF h).mono oQ
theorem Log.Jf (L:Log) (M:ay):L.commit M=if (L.append M bC).2.2≠0 then ((L.append M bC).1,0,(L.append M bC).2.2)
 else if ((L.append M bC).1.2.sync (name (L.append M bC).2.1.seg)).2≠0 then (((L.append M bC).1.1,((L.append M bC).1.2.sync (name (L.append M bC).2.1.seg)).1),0,((L.append M bC).1.2.sync (name (L.append M bC).2.1.seg)).2)
 else if (((L.append M bC).1.2.sync (name (L.append M bC).2.1.seg)).1.dR).2≠0 then (((L.append M bC).1.1,(((L.append M bC).1.2.sync (name (L.append M bC).2.1.seg)).1.dR).1),0,(((L.append M bC).1.2.sync (name (L.append M bC).2.1.seg)).1.dR).2)
 else (({ (L.append M bC).1.1 with on:=false,fresh:=0 },(((L.append M bC).1.2.sync (name (L.append M bC).2.1.seg)).1.dR).1),(L.append M bC).2.1.seg,0):=rfl
end Go.Seg
namespace Go.Proofs.Y
open Go.ay
section
variable {x:Value}{L:Seg.Log}{M:ay}
theorem JR (hH:Ro w0 F Half) (hL:L.Ok) (hM:M.Ok K) (kR:K+6<=1099511627776) (h:Sat w0 w (aK p m L::aJ m M::F)) :
  Calls prog 61 #[ptr p] w (aP λv w'=>v=.tuple #[.int .i64 (L.commit M).2.1,errno (L.commit M).2.2] /\
   Sat w0 w' (aK p m (L.commit M).1.1::aJ m (L.commit M).1.2::F)):=by
 have hap:=CU Seg.bC rfl none 0 (λw _=>xu 1 0 w) hH aN hL hM oQ h;have Hg:=uQ (Seg.Log.Jf L M);have HL:=uQ (hL.append M Seg.bC rfl);have HM:=uQ (Seg.Log.V9 (L:=L) hM Seg.bC);have HH:=uQ hH;clear hL hM h hH;generalize L.append M Seg.bC=A at *
 obtain ⟨⟨L1,M1⟩,pl,e1⟩:=A;go_enter func61,ntmps61;go_wp2_with fail;refine hap.mono ?_;rintro e w1 ⟨v,rfl,rfl,hS1⟩;clear hap;by_cases he:e1=0;rotate_left
 ·have heb:(e1==0)=false:=aiM he;have hfin:=uQ (Hg.o.trans (acg he));clear he;go_wp2_with (first|(refine eF G6 aQ rfl ?_;intro q w2 hS2)|((with_reducible refine dh ⟨?_⟩);refine gq aQ ah ak pQ fV bI au ah ?_;intro wS hS))
  go_ret2
  refine ⟨.tuple #[.int .i64 0,errno e1],rfl,?_,?_⟩
  ·rw [hfin.o]
  ·rw [hfin.o];exact Sat.sb hS
 subst he;have H1:=uQ (Hg.o.trans (abj (λh=>h rfl)));clear Hg;go_wp2_with (first|(refine eF G6 aQ rfl ?_;intro q w2 hS2)|((with_reducible refine dh ⟨?_⟩);refine gq aQ ah ak pQ fV bI au ah ?_;intro wS hS));have hS1:=hS;clear hS hS2;obtain ⟨lv,hR⟩:=aK.oV (Sat.pk aQ);clear hS1;go_wp2_with fail;refine dN [7,8] (λw'=>w'.cell? ⟨p,0,none⟩=some (ptr m)/\w'.cell? ⟨q,0,none⟩=some (.int .i64 pl.seg)) au ?_;have hG:(World.drew _).cell? ⟨p,0,none⟩=some (ptr m)/\(World.drew _).cell? ⟨q,0,none⟩=some (.int .i64 pl.seg):=⟨hR.drew.cellP bJ 0 rfl,hR.drew.cellP bJ 0 rfl⟩;refine rP 0 ?_ (y:=aZ);refine rP 1 ?_ (y:=dW);refine rP 2 ?_ (y:=bY);refine rt 3 (h:=?_);refine rP 4 ?_ (y:=bY);refine rt 5 (h:=?_);clear hG;refine bW 6 ak au (λK hK=>?_)
 (refine qF au ak ?_)
 refine (yY pl.seg hR.drew).mono ?_;rintro e w3 ⟨v,rfl,rfl,hS3⟩;refine hK _ _ (.inr (.inl ⟨hS3.cellP bJ 0 rfl,hS3.cellP bJ 0 rfl⟩)) ?_;clear hK K;refine bW 7 ak au (λK hK=>?_)
 (refine iC au ak ak ?_)
 refine (LJ HM.o (Sat.pk aQ) _).mono ?_;rintro e w4 ⟨v,rfl,rfl,hS4⟩;refine hK _ _ (.inl rfl) ?_;clear hK K hS3 hR;refine rP 8 ?_ (y:=iy);refine dH au ?_;have uN:=uQ (HM.o.sync (Seg.name pl.seg));generalize M1.sync (Seg.name pl.seg)=B at *
 obtain ⟨M2,e2⟩:=B;by_cases he:e2=0;rotate_left
 ·have heb:(e2==0)=false:=aiM he;have hfin:=uQ (H1.o.trans (acg he));clear he;go_wp2_with fail
  go_ret2
  refine ⟨.tuple #[.int .i64 0,errno e2],rfl,?_,?_⟩
  ·rw [hfin.o]
  ·rw [hfin.o];exact aK.shut2 (lv:=lv) (Sat.sb hS4)
 subst he;have H2:=uQ (H1.o.trans (abj (λh=>h rfl)));clear H1;have e0:w4.cell? ⟨p,0,none⟩=some (ptr m):=hS4.cellP bJ 0 rfl;go_wp2_with fail;refine (TQ uN.o (Sat.pk aQ)).mono ?_;rintro e w5 ⟨v,rfl,rfl,hS5⟩;clear hS4 e0;generalize M2.dR=C at *
 obtain ⟨M3,e3⟩:=C;by_cases he:e3=0;rotate_left
 ·have heb:(e3==0)=false:=aiM he;have hfin:=uQ (H2.o.trans (acg he));clear he;go_wp2_with fail
  go_ret2
  refine ⟨.tuple #[.int .i64 0,errno e3],rfl,?_,?_⟩
  ·rw [hfin.o]
  ·rw [hfin.o];exact aK.shut2 (lv:=lv) (Sat.sb hS5)
 subst he;have hfin:=uQ (H2.o.trans (abj (λh=>h rfl)));clear H2;go_wp2_with (first|((with_reducible refine bP ⟨?_⟩);refine fZ aQ ah bJ bI ak au ?_)|((with_reducible refine dh ⟨?_⟩);refine gq aQ ah ak pQ fV bI au ah ?_;intro wS hS))
 go_ret2
 refine ⟨.tuple #[.int .i64 pl.seg,errno 0],rfl,?_,?_⟩
 ·rw [hfin.o]
 ·rw [hfin.o];exact aK.shut2 (lv:=lv) (Sat.sb hS)
end
end Go.Proofs.Y
namespace Go.Seg
def idx (l:List (Int×Int)) (n:Int):Int:=match l.findIdx? (λs=>s.1==n) with
 |some i=>i
 |none=> -1
theorem ahn (L:Log) (n:Int):L.find n=idx L.l n:=rfl
theorem aiO {l:List (Int×Int)}{n:Int}{i:Nat}{s:Int×Int} (hs:l[i]?=some s) (hn:s.1=n) (hp:∀ (j:Nat) (t:Int×Int),j<i->l[j]?=some t->t.1≠n):idx l n=i:=by
 unfold idx;have:l.findIdx? (λs=>s.1==n)=some i:=by
  rw [List.findIdx?_eq_some_iff_getElem];obtain ⟨h1,h2⟩:=abm.1 hs;refine ⟨h1,by rw [h2];simpa using hn,λj hj=>?_⟩;have:=hp j _ hj (aay oQ);simpa using this
 rw [this]
theorem aiP {l:List (Int×Int)}{n:Int} (hp:∀ (j:Nat) (t:Int×Int),j<l.length->l[j]?=some t->t.1≠n):idx l n = -1:=by
 unfold idx;have:l.findIdx? (λs=>s.1==n)=none:=by
  rw [List.findIdx?_eq_none_iff];intro t ht;obtain ⟨j,hj,rfl⟩:=aoY ht;have:=hp j _ hj (aay hj);simpa using this
 rw [this]
end Go.Seg
namespace Go.Proofs.Y
open Go.ay
section
variable {x:Value}{L:Seg.Log}{M:ay}
theorem ahm (s:Int×Int) (n:Int) (h:Sat w0 w F) (hq:Ro w0 F λw=>w.cell? ⟨q,0,none⟩=some (.int .i64 n)) :
  Calls prog 89 #[.agg #[.int .i64 s.1,.int .i64 s.2],ptr q] w (aP λv w'=>v=.bool (s.1==n)/\Sat w0 w' F):=by
 go_enter func89,ntmps89;go_wp2_with (first|(((with_reducible refine fD ⟨?_⟩);refine fE aQ ak ak ?_;intro bB wB hB);have c0:wB.cell? ⟨q,0,none⟩=some (.int .i64 n):=hq _ hB.drop)|((with_reducible refine bP ⟨?_⟩);refine fZ aQ ah bJ bI ak au ?_));go_ret;exact ⟨_,rfl,rfl,hB.drop⟩
theorem aiQ (l:List (Int×Int)) (n:Int) (hln:l.length<=1048576) (h:Sat w0 w (aC 105 2 lv (eY l)::F)) (hq:Ro w0 F λw=>w.cell? ⟨q,0,none⟩=some (.int .i64 n)) :
  Calls prog 88 #[lv,.func (.func 89) #[] #[ptr q]] w (aP λv w'=>v=.int .i64 (Seg.idx l n)/\Sat w0 w' (aC 105 2 lv (eY l)::F)):=by
 rcases h.lC with ⟨rfl,hx,hF⟩|⟨b,n',cap,cs,rfl,hll,hn',hc,hcm,htk,hp⟩
 ·have hl:l=[]:=by
   cases l with
   |nil=>rfl
   |cons a l=>simp [eY]at hx
  subst hl;go_enter func88,ntmps88;go_wp2_with fail
  go_loopg [8] 0 (λg iq wr=>iq=.int .i64 0/\wr=w)
  case atStart=>exact ⟨rfl,rfl⟩
  case round=>
   obtain ⟨rfl,rfl⟩:=hrel;go_wp2;go_ret;exact ⟨_,rfl,rfl,h⟩
 ·rw [lD]at hll;obtain rfl:n'=l.length:=by omega
  have hcl:∀ (i:Nat) (s:Int×Int),l[i]?=some s->cs[i*2]?=some (.int .i64 s.1)/\cs[i*2+1]?=some (.int .i64 s.2):=by
   intro i s hs;obtain ⟨h1,h2⟩:=DF _ _ _ hs;rw [aiv i 2];exact ⟨kY htk h1,kY htk h2⟩
  have jT:=uQ hcl;have Io:=uQ (show ∀ wr,Sat w0 wr (pt b (.cells cs 105 (0,0))::F)->Sat w0 wr (aC 105 2 (.slice (some ⟨b,0,none⟩) l.length cap) (eY l)::F) from λwr hS=>Sat.lN hS (by rw [lD];omega) hn' hc hcm htk);have Hq:=uQ hq;clear hcl hn' hc hcm htk h hq hll;go_enter func88,ntmps88;go_wp2_with fail
  go_loopg [8] l.length (λg iq wr=>∃ i:Nat,g=l.length-i/\i<=l.length/\iq=.int .i64 i/\Sat w0 wr (pt b (.cells cs 105 (0,0))::F)/\Hid (∀ (j:Nat) (t:Int×Int),j<i->l[j]?=some t->t.1≠n))
  case atStart=>exact ⟨0,rfl,aea _,rfl,hp,uQ λj t hj=>absurd hj (Nat.not_lt_zero j)⟩
  case round=>
   obtain ⟨i,rfl,hi,rfl,hS,Hp⟩:=hrel;clear hp;by_cases hlt:i<l.length
   ·obtain ⟨s,hs⟩:∃ s,l[i]?=some s:=⟨_,aay hlt⟩;obtain ⟨d0,d1⟩:=jT.o i s hs;have Hs:=uQ hs;have MZ:=uQ d0;have Hd1:=uQ d1;have bT:=uQ hlt;have hic:(i:Int)<(l.length:Int):=oQ;have hwi:=CS (i:=i);clear hs d0 d1 hlt;have hfn:=ahm (q:=q) s n hS (Ro.os Hq.o)
    go_wp2_with ((with_reducible refine bP ⟨?_⟩);refine DY (b:=b) (o:=i*2) [.int .i64 s.1,.int .i64 s.2] aQ ah bJ (λj v hj=>by
     rcases j with _|_|j
     ·cases hj;exact MZ.o
     ·cases hj;exact Hd1.o
     ·simp at hj) underlying105 rfl au ?_)
    refine hfn.mono ?_;rintro e w2 ⟨v,rfl,rfl,hS2⟩;clear hfn hS;by_cases hsn:s.1=n
    ·have hsb:(s.1==n)=true:=by simpa using hsn
     have bH:=uQ (Seg.aiO Hs.o hsn Hp.o);clear hsn;go_wp2;go_ret;exact ⟨.int .i64 i,rfl,by rw [bH.o],Io.o _ hS2⟩
    ·have hsb:(s.1==n)=false:=by simpa using hsn
     have zF:=uQ (show ∀ (j:Nat) (t:Int×Int),j<i+1->l[j]?=some t->t.1≠n by
      intro j t hj ht;by_cases hji:j<i
      ·exact Hp.o j t hji ht
      ·obtain rfl:j=i:=by omega
       rw [Hs.o]at ht;cases ht;exact hsn)
     clear hsn Hp;go_wp2
     go_roundg (l.length-(i+1))
     case measure=>have:=bT.o;omega
     case rel=>exact ⟨i+1,rfl,aec bT.o,by first|rfl|go_num,hS2,zF⟩
   ·obtain rfl:i=l.length:=by omega
    have hic:¬ (l.length:Int)<(l.length:Int):=oQ;have bH:=uQ (Seg.aiP Hp.o);clear hi hlt Hp;go_wp2;go_ret;exact ⟨.int .i64 (-1),rfl,by rw [bH.o],Io.o _ hS⟩
theorem FQ (hL:L.Ok) (n:Int) (h:Sat w0 w (aK p m L::F)) :
  Calls prog 46 #[ptr p,.int .i64 n] w (aP λv w'=>v=.int .i64 (L.find n)/\Sat w0 w' (aK p m L::F)):=by
 obtain ⟨lv,hR⟩:=aK.oV h;clear h;have iV:=uQ hL.len;rw [Seg.ahn];clear hL;go_enter func46,ntmps46;go_wp2_with ((with_reducible refine fD ⟨?_⟩);refine fE aQ ak ak ?_;intro bB wB hB);refine (uq (Sat.pk aQ)).mono ?_;rintro e w2 ⟨v,rfl,rfl,rfl⟩;clear hR;go_wp2_with ((with_reducible refine bP ⟨?_⟩);refine fZ aQ ah bJ bI ak au ?_);refine (aiQ (q:=bB) (lv:=lv) L.l n iV.o (Sat.pk aQ) (λw hw=>hw.cellP bJ 0 rfl)).mono ?_;rintro e w3 ⟨v,rfl,rfl,hS3⟩;clear hB;go_wp2;go_ret;exact ⟨_,rfl,rfl,aK.shut2 (lv:=lv) (Sat.sb hS3)⟩
theorem aan (hM:M.Ok K) (h:Sat w0 w (aK p m L::aJ m M::F)) :
  Calls prog 38 #[ptr p] w (aP λv w'=>v=errno M.dR.2/\Sat w0 w' (aK p m L::aJ m M.dR.1::F)):=by
 obtain ⟨lv,hR⟩:=aK.oV h;clear h;go_enter func38,ntmps38;go_wp2_with fail;refine (uq (Sat.pk aQ)).mono ?_;rintro e w2 ⟨v,rfl,rfl,rfl⟩;go_wp2_with ((with_reducible refine bP ⟨?_⟩);refine fZ aQ ah bJ bI ak au ?_);refine (TQ hM (Sat.pk aQ)).mono ?_;rintro e w3 ⟨v,rfl,rfl,hS3⟩;go_wp2;go_ret;exact ⟨_,rfl,rfl,aK.shut2 (lv:=lv) (Sat.sb hS3)⟩
theorem Jr (n:Int):(L.at n=none/\L.find n = -1)\/∃ i,L.at n=some i/\L.find n=i:=by
 unfold Seg.Log.find;cases L.at n with
 |none=>exact .inl ⟨rfl,rfl⟩
 |some i=>exact .inr ⟨i,rfl,rfl⟩
theorem ajK (hL:L.Ok) (n:Int) (h:Sat w0 w (aK p m L::F)) :
  Calls prog 188 #[ptr p,.int .i64 n] w (aP λv w'=>v=.int .i64 (L.size n)/\Sat w0 w' (aK p m L::F)):=by
 have hf:=FQ hL n h;have iV:=uQ hL.len;rcases Jr (L:=L) n with ⟨ha,hb⟩|⟨i,ha,hb⟩
 ·have bH:=uQ (show L.size n=0 by unfold Seg.Log.size;rw [ha]);rw [hb]at hf;clear ha hb hL h;go_enter func188,ntmps188;go_wp2_with fail;refine hf.mono ?_;rintro e w2 ⟨v,rfl,rfl,hS2⟩;clear hf;go_wp2;go_ret;rw [bH.o];exact ⟨_,rfl,rfl,hS2⟩
 ·rw [hb]at hf;obtain ⟨hlt,s,hs,hsn⟩:=Seg.Log.zT ha;have bH:=uQ (show L.size n=s.2 by unfold Seg.Log.size;rw [ha];simp only;rw [adT,hs];rfl);have Hs:=uQ hs;have hi0:(0:Int)<=(i:Int):=oQ;have hil:(i:Int)<(L.l.length:Int):=oQ;have hd:decide ((i:Int)<0)=false:=ad2 oQ;clear ha hb hL h hs hsn hlt;go_enter func188,ntmps188;go_wp2_with fail;refine hf.mono ?_;rintro e w2 ⟨v,rfl,rfl,hS2⟩;clear hf;obtain ⟨lv,hR⟩:=aK.oV hS2;rcases (hR.pk).lC with ⟨hl,hx,hF⟩|⟨b,n',cap,cs,rfl,hll,hn',hc,hcm,htk,hp⟩
  ·exfalso;have:=(DF _ _ _ Hs.o).1;rw [hx]at this;simp at this
  ·rw [lD]at hll;obtain rfl:n'=L.l.length:=by omega
   have e2:w2.cell? ⟨b,i*2+1,none⟩=some (.int .i64 s.2):=by
    have:=kY htk (DF _ _ _ Hs.o).2;rw [aiv 2 i]at this;exact hp.cellP bJ _ this
   clear hp htk hc hn' hll hcm;go_wp2_with ((with_reducible refine bP ⟨?_⟩);refine fZ aQ ah bJ bI ak au ?_);go_ret;rw [bH.o];exact ⟨_,rfl,rfl,hS2⟩
theorem Qr (hL:L.Ok) (hM:M.Ok K) (n:Int) (h:Sat w0 w (aK p m L::aJ m M::F)) :
  Calls prog 14 #[ptr p,.int .i64 n] w (aP λv w'=>∃ bv,v=.tuple #[bv,errno (L.bytes M n).2]/\Sat w0 w' (bQ bv (L.bytes M n).1::aK p m L::aJ m M::F)):=by
 obtain ⟨lv,hR⟩:=aK.oV h;have hok:=uq hR;have hf:=FQ hL n h;rcases Jr (L:=L) n with ⟨ha,hb⟩|⟨i,ha,hb⟩
 ·have bH:=uQ (show L.bytes M n=([],9) by unfold Seg.Log.bytes;rw [ha]);rw [hb]at hf;clear ha hb hL h hR;go_enter func14,ntmps14;go_wp2_with fail;refine hok.mono ?_;rintro e w2 ⟨v,rfl,rfl,rfl⟩;clear hok;go_wp2_with fail;refine hf.mono ?_;rintro e w2 ⟨v,rfl,rfl,hS2⟩;clear hf;go_wp2
  go_ret2
  rw [bH.o];exact ⟨_,rfl,.slice none 0 0,rfl,Sat.gB.2 hS2⟩
 ·rw [hb]at hf;have bH:=uQ (show L.bytes M n=M.all (Seg.name n) by unfold Seg.Log.bytes;rw [ha]);have hi0:(0:Int)<=(i:Int):=oQ;have hd:decide ((i:Int)<0)=false:=ad2 oQ;clear ha hb hL h hR lv;go_enter func14,ntmps14;go_wp2_with fail;refine hok.mono ?_;rintro e w2 ⟨v,rfl,rfl,rfl⟩;clear hok;go_wp2_with fail;refine hf.mono ?_;rintro e w2 ⟨v,rfl,rfl,hS2⟩;clear hf;obtain ⟨lv,hR⟩:=aK.oV hS2;clear hS2;go_wp2_with fail;refine dN [6,7,8,9,10] (λw'=>w'.cell? ⟨p,0,none⟩=some (ptr m)) au ?_;have hG:w2.drew.cell? ⟨p,0,none⟩=some (ptr m):=hR.drew.cellP bJ 0 rfl;refine rP 0 ?_ (y:=aZ);refine rP 1 ?_ (y:=dW);refine rP 2 ?_ (y:=bY);refine rt 3 (h:=?_);refine rP 4 ?_ (y:=aZ);clear hG;refine bW 5 ak au (λK hK=>?_)
  (refine qF au ak ?_)
  refine (yY n hR.drew).mono ?_;rintro e w3 ⟨v,rfl,rfl,hS3⟩;refine hK _ _ (.inr (.inl (hS3.cellP bJ 0 rfl))) ?_;clear hK K hR;refine bW 6 ak au (λK hK=>?_)
  (refine iC au ak ak ?_)
  refine (Ob hM (Sat.pk aQ) _).mono ?_;rintro e w4 ⟨v,rfl,bv,rfl,hS4⟩;refine hK _ _ (.inl rfl) ?_;clear hK K hS3;refine rP 7 ?_ (y:=(iF ak dw));refine rP 8 ?_ (y:=(iF ak dw));refine rP 9 ?_ (y:=iy);refine rP 10 ?_ (y:=iy);refine dH au ?_;go_wp2
  go_ret2
  rw [bH.o];exact ⟨_,rfl,bv,rfl,Sat.sub (aK.shut2 (lv:=lv) (hS4.sb)) kL⟩
end
end Go.Proofs.Y
namespace Go.Seg
def Log.aF (L:Log):List Int:=L.l.map (·.1)
end Go.Seg
namespace Go.Proofs.Y
open Go.ay
theorem adO:jF prog 105=some (.agg #[.int .i64 0,.int .i64 0]):=by kernel_rfl
section
variable {x:Value}{L:Seg.Log}{M:ay}
theorem Qk (l k:List Int):ints (l++k)=ints l++ints k:=by unfold ints;rw [adU]
theorem Ql (l:List Int):(ints l).length=l.length:=by unfold ints;rw [aa4]
theorem amT (hln:L.l.length<=1048576) (h:Sat w0 w (nK p m L lv::aC 105 2 lv (eY L.l)::F)) :
  (L.l=[]/\lv=.slice none 0 0)\/∃ b cap cs,lv=.slice (some ⟨b,0,none⟩) L.l.length cap/\(∀ (i:Nat) (s:Int×Int),L.l[i]?=some s->cs[i*2]?=some (.int .i64 s.1)/\cs[i*2+1]?=some (.int .i64 s.2)) /\
   Sat w0 w (pt b (.cells cs 105 (0,0))::nK p m L lv::F)/\∀ w1 G,Sat w0 w1 (pt b (.cells cs 105 (0,0))::G)->Sat w0 w1 (aC 105 2 lv (eY L.l)::G):=by
 have h':=h.bf;rcases h'.lC with ⟨rfl,hx,hF⟩|⟨b,n',cap,cs,rfl,hll,hn',hc,hcm,htk,hp⟩
 ·left;refine ⟨?_,rfl⟩;cases hl:L.l with
  |nil=>rfl
  |cons a l=>rw [hl]at hx;simp [eY]at hx
 ·right;rw [lD]at hll;obtain rfl:n'=L.l.length:=by omega
  refine ⟨b,cap,cs,rfl,?_,hp,λw1 G hS=>Sat.lN hS (by rw [lD];omega) hn' hc hcm htk⟩;intro i s hs;obtain ⟨h1,h2⟩:=DF _ _ _ hs;rw [aiv i 2];exact ⟨kY htk h1,kY htk h2⟩
theorem FV (hL:L.Ok) (h:Sat w0 w (aK p m L::F)) :
  Calls prog 16 #[ptr p] w (aP λv w'=>Sat w0 w' (aC 3 1 v (ints L.aF)::aK p m L::F)):=by
 obtain ⟨lv,hR⟩:=aK.oV h;clear h;have hok:=uq hR;rcases amT hL.len hR with ⟨hnil,rfl⟩|⟨b,cap,cs,rfl,hcl,hp,hend⟩
 ·have bH:=uQ (show L.aF=[] by unfold Seg.Log.aF;rw [hnil];rfl);clear hnil hL;go_enter func16,ntmps16;go_wp2_with fail;refine hok.mono ?_;rintro e w2 ⟨v,rfl,rfl,rfl⟩;clear hok;go_wp2_with ((with_reducible refine bP ⟨?_⟩);refine fZ aQ ah bJ bI ak au ?_)
  go_loopg [14,3] 0 (λg iq ov wr=>iq=.int .i64 0/\ov=.slice none 0 0/\wr=w)
  case atStart=>exact ⟨rfl,rfl,rfl⟩
  case round=>
   obtain ⟨rfl,rfl,rfl⟩:=hrel;go_wp2;go_ret;rw [bH.o];exact ⟨_,rfl,Sat.gB.2 (aK.shut2 hR)⟩
 ·have jT:=uQ hcl;have Io:=uQ hend;have iV:=uQ hL.len;clear hcl hend hL hR;go_enter func16,ntmps16;go_wp2_with fail;refine hok.mono ?_;rintro e w2 ⟨v,rfl,rfl,rfl⟩;clear hok;go_wp2_with ((with_reducible refine bP ⟨?_⟩);refine fZ aQ ah bJ bI ak au ?_)
  go_loopg [14,3] L.l.length (λg iq ov wr=>∃ i:Nat,g=L.l.length-i/\i<=L.l.length/\iq=.int .i64 i /\
   Sat w0 wr (aC 3 1 ov (ints ((L.l.take i).map (·.1)))::pt b (.cells cs 105 (0,0))::nK p m L (.slice (some ⟨b,0,none⟩) L.l.length cap)::F))
  case atStart=>exact ⟨0,rfl,aea _,rfl,Sat.gB.2 hp⟩
  case round=>
   obtain ⟨i,rfl,hi,rfl,hS⟩:=hrel;clear hp;by_cases hlt:i<L.l.length
   ·obtain ⟨s,hs⟩:∃ s,L.l[i]?=some s:=⟨_,aay hlt⟩
    have eG:=uQ (show ints ((L.l.take i).map (·.1))++[.int .i64 s.1]=ints ((L.l.take (i+1)).map (·.1)) by
     rw [aeK,hs,adU,Qk];rfl)
    have hlen:(ints ((L.l.take i).map (·.1))).length<=2147483648:=by
     rw [Ql,aa4,ads];have:=iV.o;omega
    obtain ⟨d0,d1⟩:=jT.o i s hs;have MZ:=uQ d0;have Hd1:=uQ d1;have bT:=uQ hlt;have hic:(i:Int)<(L.l.length:Int):=oQ;have hwi:IntKind.i64.wrap ((i:Int)+1)=(i:Int)+1:=adr _ (by have:=iV.o;omega);clear hs d0 d1 hlt
    go_wp2_with (first
     |((with_reducible refine bP ⟨?_⟩);refine DY (b:=b) (o:=i*2) [.int .i64 s.1,.int .i64 s.2] aQ ah bJ (λj v hj=>by
       rcases j with _|_|j
       ·cases hj;exact MZ.o
       ·cases hj;exact Hd1.o
       ·simp at hj) underlying105 rfl au ?_)
     |(refine eF adO aQ rfl ?_;intro q3 w3 hS3)
     |((with_reducible refine dh ⟨?_⟩);refine gq aQ ah ak pQ fV bI au ah ?_;intro wS hS)|((with_reducible refine bP ⟨?_⟩);refine fZ aQ ah bJ bI ak au ?_)|((with_reducible refine nR ⟨?_⟩);refine nN (e:=3) (sz:=1) (eX:=8) au aQ ak ak ah bI ?_;intro bN wN hN)|((with_reducible refine lH ⟨?_⟩);refine oh 3 1 8 au aQ ah ah bJ bJ ah bI ah aQ bI bI ak ?_;intro bA nA cA wA hA))
    go_roundg (L.l.length-(i+1))
    case measure=>have:=bT.o;omega
    case rel=>
     refine ⟨i+1,rfl,aec bT.o,by first|rfl|go_num,?_⟩;rw [eG.o]at hA;exact Sat.sb hA
   ·obtain rfl:i=L.l.length:=by omega
    have hic:¬ (L.l.length:Int)<(L.l.length:Int):=oQ;rw [aeo]at hS;clear hi hlt;go_wp2;go_ret;refine ⟨_,rfl,?_⟩;have h7:=Io.o _ _ (hS.pk);exact Sat.sub (aK.shut2 (lv:= .slice (some ⟨b,0,none⟩) L.l.length cap) (Sat.sb h7)) kL
end
section
variable {av:Value}
section
variable {o:Nat}{pos:String}{g:Nat×Bool}
theorem I7 (h:Stop (wpList P ops Q (⟨dst,.load ty x,t,pos,after,some g⟩::rest) a w)):wpList P ops Q (⟨dst,.load ty x,t,pos,after,some g⟩::rest) a w:=h.o
theorem Md (hw:Region.wanted ⟨dst,.load ty x,t,pos,after,some g⟩ (yielded ops a.tmps)=true) (hx:a.eval x=.pointer (some ⟨b,o,none⟩)) (cl:List Value) (d:TypeDesc) (hc:w.rangeAt b o cl)
  (hu:P.underlying ty=some d) (hd:d.isRow=true) (hi:(P.info? ty).map (·.size)=some cl.length)
  (h:wpList P ops Q rest (a.put dst (.agg cl.toArray)) w):wpList P ops Q (⟨dst,.load ty x,t,pos,after,some g⟩::rest) a w:=
 wpList_step λ_ hK=>by
  rw [acg hw];exact wp_load_mid ty x rfl b o hx cl d hc hu hd hi (hK _ _ h)
end
end
def aW (p:Seg.aV):List Value:=[.int .i64 p.seg,.int .i64 p.at_,.int .i64 p.size]
def fM (a:Rep.dY):List Value:=[.int .i64 a.tag,.int .i64 a.place.seg,.int .i64 a.place.at_,.int .i64 a.place.size,.int .i64 a.first]
abbrev xF:Rep.dY:=⟨0,Seg.aV.zero,0⟩
abbrev xG:Seg.aV:=Seg.aV.zero
theorem wY (p:Seg.aV):(aW p).length=3:=rfl
theorem EH (a:Rep.dY):(fM a).length=5:=rfl
theorem yO (p:Seg.aV):(aW p).all (·.oneCell')=true:=rfl
theorem BQ (a:Rep.dY):(fM a).all (·.oneCell')=true:=rfl
def slotL {V:Type} (enc:V->List Value) (x:Tab.Slot V):List Value:= .int .i64 x.st::(aA x.key++enc x.val)
abbrev iI (p:Nat) (T:TypeId) (sv:Value) (n g:Nat):aG:=pt p (.cells #[sv,.int .i64 n,.int .i64 g] T (0,0))
theorem lS {V:Type} (enc:V->List Value) (x:Tab.Slot V) (hk:x.key.length=32) (m:Nat) (he:(enc x.val).length=m):(slotL enc x).length=33+m:=by
 unfold slotL;rw [aep,aaL,aX,hk,he];omega
theorem tH (b:aj.Bs):(aA b).all (·.oneCell')=true:=by
 rw [ae0];intro v hv;unfold aA at hv;obtain ⟨c,_,rfl⟩:=abL.1 hv
 rfl
theorem rM {V:Type} (enc:V->List Value) (x:Tab.Slot V) (he:(enc x.val).all (·.oneCell')=true):(slotL enc x).all (·.oneCell')=true:=by
 unfold slotL;rw [aql,aiJ,tH,he];rfl
theorem anc {V:Type} (enc:V->List Value) (x:Tab.Slot V){j:Nat}{v:Value} (h:(aA x.key)[j]?=some v):(slotL enc x)[1+j]?=some v:=by
 unfold slotL;rw [apW,ajF,aej (abm.1 h).1];exact h
theorem acT {V:Type} (enc:V->List Value) (x:Tab.Slot V) (hk:x.key.length=32){j:Nat}{v:Value} (h:(enc x.val)[j]?=some v):(slotL enc x)[33+j]?=some v:=by
 unfold slotL;rw [show 33+j=32+j+1 by omega,ajF,aeh (by rw [aX,hk];omega),aX,hk,apG];exact h
theorem BF:jF prog 289=some (.agg (slotL fM ⟨0,aj.zero32,⟨0,Seg.aV.zero,0⟩⟩).toArray):=by kernel_rfl
theorem xC:jF prog 164=some (.agg (slotL aW ⟨0,aj.zero32,Seg.aV.zero⟩).toArray):=by kernel_rfl
section
variable {V:Type}{enc:V->List Value}{x:Tab.Slot V}{l:List Value}
theorem yP (h:Sat w0 w (pt b (.cells l.toArray T (0,0))::R)):w.rangeAt b 0 l:=λj v hj=>by
 have:=h.cellP aU j yK0;rw [ad8];exact this
theorem DJ (h:Sat w0 w (pt b (.cells (slotL enc x).toArray T (0,0))::R)):w.rangeAt b 1 (aA x.key):=λj v hj=>
 h.cellP aU (1+j) (by rw [ace];exact anc enc x hj)
theorem anf (hk:x.key.length=32) (h:Sat w0 w (pt b (.cells (slotL enc x).toArray T (0,0))::R)):w.rangeAt b 33 (enc x.val):=λj v hj=>
 h.cellP aU (33+j) (by rw [ace];exact acT enc x hk hj)
end
end Go.Proofs.Y
namespace Go.Tab
open Go.aj (Bs)
section
variable {V:Type}{x:Slot V}{c:Nat}
theorem YA (hc:∃ j,c=2^j/\3<=j) (hk:x.key.length=32) (hx:x.st=0):Good (List.replicate c x):=
 ⟨by rw [afx];exact hc,(λy hy=>by rw [List.eq_of_mem_replicate hy,hx];decide),(λy hy=>by rw [List.eq_of_mem_replicate hy];exact hk),λi y hy h1=>by
  rw [List.eq_of_mem_replicate (abA hy),hx]at h1;cases h1⟩
theorem XI (hx:x.st=0) (k:Bs) (v:V):¬ Has (List.replicate c x) k v:=by
 rintro ⟨i,y,hy,h1,_⟩;rw [List.eq_of_mem_replicate (abA hy),hx]at h1;cases h1
theorem XH (hx:x.st=0):kD (List.replicate c x)=0:=by unfold kD;rw [List.countP_replicate,abj (by rw [hx];decide)]
theorem XJ (hx:x.st=0):used (List.replicate c x)=0:=by unfold used;rw [List.countP_replicate,abj (by rw [hx];decide)]
theorem QN (hk:x.key.length=32) (hx:x.st=0):(⟨List.replicate 8 x,0,0⟩:Tb V).Ok:=
 ⟨YA ⟨3,rfl,abl 3⟩ hk hx,(XH hx).symm,(XJ hx).symm,by simp,by simp⟩
theorem QM (hx:x.st=0) (n g:Nat):(⟨List.replicate 8 x,n,g⟩:Tb V).Is (λ_=>none):=λk v=>⟨λh=>absurd h (XI hx k v),λh=>by cases h⟩
theorem Tb.Is.some {t:Tb V}{m:Bs->Option V} (hm:t.Is m) (ho:t.Ok){k:Bs}{d:Nat} (he:Ends t.slots k d){y:Slot V} (hy:t.slots[pos k t.slots.length d]?=some y):(y.st=1->m k=some y.val)/\(y.st≠1->m k=none):=by
 refine ⟨λh1=>(hm k _).1 (Jp he hy h1).2,λh1=>?_⟩;cases hmk:m k with
 |none=>rfl
 |some v=>exact absurd ((hm k v).2 hmk) ((Jo ho.good he hy h1).2 v)
end
end Go.Tab
namespace Go.Proofs.Y
open Go.ay
theorem aat (z:Array Value) (h:0<z.size):∀ n,(madeCells z (n*z.size)).toList=(List.replicate n z.toList).flatten
 |0=>by simp [madeCells]
 |n+1=>by
  have ih:=aat z h n;have hl:(madeCells z ((n+1)*z.size)).toList=(List.range ((n+1)*z.size)).map (z[· % z.size]!):=by unfold madeCells;simp
  have hl0:(madeCells z (n*z.size)).toList=(List.range (n*z.size)).map (z[· % z.size]!):=by unfold madeCells;simp
  rw [hl0]at ih;rw [hl,Nat.succ_mul,List.range_add,adU,ih,List.replicate_succ',List.flatten_append]
  congr 1
  rw [aeW];simp only [ao1,List.flatten_nil,adV];refine List.ext_getElem yF0 λi h1 h2=>?_;have hi:i<z.size:=by simpa using h1
  simp only [List.getElem_map,List.getElem_range,Function.comp];rw [aiv n,Nat.mul_add_mod,ape hi,getElem!_pos z i hi,Array.getElem_toList]
section
variable {o:Nat}{t ty T e eX:Nat}{pos:String}{zs:List Value}
theorem at_make (h:Stop (wpList P ops Q (⟨dst,.makeSlice ty x y,t,pos,after,none⟩::rest) a w)):wpList P ops Q (⟨dst,.makeSlice ty x y,t,pos,after,none⟩::rest) a w:=h.o
theorem Me (hb:pX P ty e sz eX=true) (hz:jF P e=some (.agg zs.toArray)) (hs:Sat w0 w L) (hx:a.eval x=.int .i64 n) (hy:a.eval y=.int .i64 n) (hle:eX*n<=281474976710656) (hm:n<=9223372036854775807)
  (hK:∀ b w',Sat w0 w' (aC e sz (.slice (some ⟨b,0,none⟩) n n) (List.replicate n zs).flatten::L)->wpList P ops Q rest (a.put dst (.slice (some ⟨b,0,none⟩) n n)) w') :
  wpList P ops Q (⟨dst,.makeSlice ty x y,t,pos,after,none⟩::rest) a w:=by
 obtain ⟨hu,i,z,hi,hz1,h1,h2,h3,h4⟩:=xW hb;have hzz:z=.agg zs.toArray:=by
  unfold jF at hz;rw [hi]at hz;simp only [Option.bind_some]at hz;rw [hz1]at hz;exact ai2 hz
 subst hzz;have hzl:zs.length=sz:=by rw [<-abn];exact h3
 have hr:=run_make (P:=P) w ty e i (.agg zs.toArray) hu hi hz1 .i64 .i64 n n oQ (aoZ _) (by rw [h2,<-aqe];omega) oQ;simp only [apM]at hr;have hS:=hs.alloc (.cells (madeCells (Value.agg zs.toArray).cells (n*i.size)) e);refine aeV rfl λ_ hK'=>?_;unfold Oper.wp execOp;simp only [hx,hy,hr,ad1,aek,adu];refine hK' _ _ (hK _ _ ?_);have hm:=aat zs.toArray (by rw [abn];omega) n;rw [abn,hzl]at hm;refine Sat.lN hS (by rw [List.length_flatten,List.map_replicate,List.sum_replicate_nat,hzl]) (abl _) (by rw [size_madeCells,h1];exact abl _) zF0 ?_;rw [h1];show (madeCells zs.toArray (n*sz)).toList.take (n*sz)=_;rw [hm,ad9 (by rw [List.length_flatten,List.map_replicate,List.sum_replicate_nat,hzl];exact abl _)]
end
end Go.Proofs.Y
