import Derived.Test.YtiglchkhikciiaaGreatDoorJ3
namespace Go.Proofs.YtiglchkhikciiaaGreatDoor
open Go Go.Sl Go.ay Go.MapKept Go.RowKit
theorem sQ {p : Prop} (h : p := by first | assumption | exact dW _ _ rfl | exact dW _ _ aQ | exact dW _ _ (akZ aQ)) : p := h
theorem pQ {p : Prop} (h : p := by first | (simp only [dM, Value.cells]; (try go_frame); first | done | rfl) | rfl) : p := h
theorem gQ {p : Prop} (h : p := by go_frame; first | done | rfl) : p := h
theorem fQ {p : Prop} (h : p := by first | rfl | assumption | exact akZ aQ) : p := h
theorem wQ {p : Prop} (h : p := by with_reducible rfl) : p := h
end Go.Proofs.YtiglchkhikciiaaGreatDoor
set_option linter.unusedVariables false
set_option maxHeartbeats 128000000
namespace Go.Rep
open Go.aj (Bs fO)
open Go.Seg (aU)
open Go.Tab (put)
abbrev Row:=Int×fO
def fZ (r:Row):Bs:=r.2.e.key
def eu (r:Row):Int:=r.2.e.tag
def jV (r:Row):aU:=⟨r.1,r.2.at_,r.2.size⟩
structure dF where
 tag:Int
 place:aU
 first:Int
def newest:List Row→Bs→Option Row
 |[],_=>none
 |r::l,k=>match newest l k with
  |some x=>some x
  |none=>if eu r≠2∧fZ r=k then some r else none
def lU:List Row→Bs→Option Row
 |[],_=>none
 |r::l,k=>if eu r=0∧fZ r=k then some r else lU l k
def first (l:List Row) (k:Bs):Int:=match lU l k with
 |some r=>r.1
 |none=> -1
def ledger (l:List Row) (k:Bs):Option dF:=(newest l k).map fun r=>⟨eu r,jV r,first l k⟩
def x9 (m:Bs→Option dF) (r:Row):Int:=match m (fZ r) with
 |some a=>a.first
 |none=> -1
def mJ (m:Bs→Option dF) (r:Row):Int:=if eu r=0∧x9 m r<0 then r.1 else x9 m r
def DR (m:Bs→Option dF) (r:Row):Bs→Option dF:=
 if eu r=2 then m else put m (fZ r) ⟨eu r,jV r,mJ m r⟩
theorem zK (l:List Row) (r:Row) (k:Bs):newest (l++[r]) k=if eu r≠2∧fZ r=k then some r else newest l k:=by
 induction l with
 |nil=>simp only [ajd,newest]
 |cons x l ih=>
  simp only [ajN,newest,ih]
  split
  ·rename_i h;split at h
   ·rename_i h2;rw [ac3 h2];cases h;rfl
   ·rename_i h2;rw [abw h2,h]
  ·rename_i h;split at h
   ·cases h
   ·rename_i h2;rw [abw h2,h]
theorem Kw (l:List Row) (r:Row) (k:Bs):lU (l++[r]) k=match lU l k with
  |some x=>some x
  |none=>if eu r=0∧fZ r=k then some r else none:=by
 induction l with
 |nil=>simp only [ajd,lU]
 |cons x l ih=>
  simp only [ajN,lU,ih]
  split
  ·rename_i h;simp only
  ·rfl
theorem aeR {l:List Row}{k:Bs} (h:newest l k=none):lU l k=none:=by
 induction l with
 |nil=>rfl
 |cons x l ih=>
  simp only [newest]at h
  split at h
  ·cases h
  ·rename_i h1
   split at h
   ·cases h
   ·rename_i h2
    simp only [lU]
    rw [abw fun h3=>h2 ⟨by rw [h3.1];decide,h3.2⟩]
    exact ih h1
theorem Ru {l:List Row}{k:Bs}{r:Row} (h:lU l k=some r):r∈l∧eu r=0∧fZ r=k:=by
 induction l with
 |nil=>cases h
 |cons x l ih=>
  simp only [lU]at h
  split at h
  ·cases h;exact ⟨.head _,by assumption⟩
  ·exact ⟨.tail _ (ih h).1,(ih h).2⟩
theorem aee (l:List Row) (r:Row) (h0:∀ x∈l,0≤x.1):ledger (l++[r])=DR (ledger l) r:=by
 funext k
 unfold DR
 by_cases h2:eu r=2
 ·rw [ac3 h2]
  unfold ledger first
  rw [zK,abw (fun h=>h.1 h2),Kw]
  cases lU l k with
  |some x=>rfl
  |none=>simp only;rw [abw (fun h=>by rw [h2]at h;exact absurd h.1 aN)]
 ·rw [abw h2]
  unfold put
  by_cases hk:k=fZ r
  ·subst hk
   rw [ac3 rfl]
   have e1:∀ k,ledger l k=(newest l k).map fun r=>⟨eu r,jV r,first l k⟩:=fun _=>rfl
   have e2:ledger (l++[r]) (fZ r)=some ⟨eu r,jV r,first (l++[r]) (fZ r)⟩:=by
    unfold ledger
    rw [zK,ac3 ⟨h2,rfl⟩,aj7]
   rw [e2]
   congr 2
   unfold mJ x9
   rw [e1]
   unfold first
   rw [Kw]
   cases hn:newest l (fZ r) with
   |none=>
    rw [aeR hn]
    simp only [akK]
    by_cases ht:eu r=0
    ·rw [ac3 ⟨ht,trivial⟩,ac3 ⟨ht,by decide⟩]
    ·rw [abw (fun h=>ht h.1),abw (fun h=>ht h.1)]
   |some x=>
    simp only [aj7]
    cases hf:lU l (fZ r) with
    |some y=>
     simp only
     rw [abw (fun h=>by have:=h0 y (Ru hf).1;omega)]
    |none=>
     simp only
     by_cases ht:eu r=0
     ·rw [ac3 ⟨ht,trivial⟩,ac3 ⟨ht,by decide⟩]
     ·rw [abw (fun h=>ht h.1),abw (fun h=>ht h.1)]
  ·rw [abw hk]
   unfold ledger first
   rw [zK,abw (fun h=>hk h.2.symm),Kw]
   cases lU l k with
   |some x=>rfl
   |none=>simp only;rw [abw (fun h=>hk h.2.symm)]
def counts (a:dF):Bool:=decide (a.tag=0) || (decide (0≤a.first) && decide (a.first<a.place.seg))
def lJ (l:List Row) (i:Nat):Bool:=match l[i]? with
 |none=>false
 |some r=>decide (eu r<2) && (l.drop (i+1)).all fun x => !(decide (eu x<2) && decide (fZ x=fZ r))
def cnt (l:List Row) (i:Nat):Bool:=match l[i]? with
 |none=>false
 |some r => !decide (eu r=2) && lJ l i && (decide (eu r=0) || (l.take i).any fun x=>decide (eu x=0) && decide (fZ x=fZ r) && decide (x.1<r.1))
structure Rows (l:List Row):Prop where
 tag:∀ r∈l,eu r=0∨eu r=1∨eu r=2
 seg:∀ r∈l,0≤r.1
 rise:l.Pairwise fun a b=>a.1≤b.1
theorem U7 {l:List Row}{k:Bs} (ht:∀ r∈l,eu r=0∨eu r=1∨eu r=2):newest l k=none↔(l.all fun x => !(decide (eu x<2) && decide (fZ x=k)))=true:=by
 induction l with
 |nil=>exact ⟨fun _=>rfl,fun _=>rfl⟩
 |cons y l ih=>
  rw [alE,ajc,← ih (fun r h=>ht r (.tail _ h))]
  have hy:=ht y (.head _)
  simp only [newest]
  cases hn:newest l k with
  |some x=>simp
  |none=>
   simp only [and_true]
   by_cases hc:eu y≠2∧fZ y=k
   ·rw [ac3 hc]
    have:eu y<2:=oQ
    simp [this,hc.2]
   ·rw [abw hc]
    simp only [true_iff,Bool.not_eq_true',Bool.and_eq_false_iff,ajJ]
    by_cases h2:eu y<2
    ·exact .inr fun h=>hc ⟨by omega,h⟩
    ·exact .inl h2
theorem Va:∀ {l:List Row}{i:Nat}{r:Row},(∀ r∈l,eu r=0∨eu r=1∨eu r=2)→l[i]?=some r→lJ l i=true→newest l (fZ r)=some r
 |[],_,_,_,hi,_=>by simp at hi
 |x::l,0,r,ht,hi,hn=>by
  obtain rfl:x=r:=by simpa using hi
  unfold lJ at hn
  rw [hi]at hn
  simp only [ajc,adN]at hn
  have h2:newest l (fZ x)=none:=(U7 fun r h=>ht r (.tail _ h)).2 hn.2
  have:=hn.1
  simp only [newest,h2]
  rw [ac3 ⟨by omega,trivial⟩]
 |x::l,i+1,r,ht,hi,hn=>by
  have hi':l[i]?=some r:=by simpa using hi
  have hn':lJ l i=true:=by
   unfold lJ at hn ⊢
   rw [hi]at hn;rw [hi']
   exact hn
  simp only [newest,Va (fun r h=>ht r (.tail _ h)) hi' hn']
theorem Vd:∀ {l:List Row}{k:Bs}{r:Row},(∀ r∈l,eu r=0∨eu r=1∨eu r=2)→newest l k=some r→∃ i,l[i]?=some r∧lJ l i=true∧fZ r=k∧eu r≠2
 |[],_,_,_,h=>by cases h
 |x::l,k,r,ht,h=>by
  simp only [newest]at h
  cases hn:newest l k with
  |some y=>
   rw [hn]at h
   obtain rfl:y=r:=by simpa using h
   obtain ⟨i,a,b,c,d⟩:=Vd (fun r h=>ht r (.tail _ h)) hn
   refine ⟨i+1,by simpa using a,?_,c,d⟩
   unfold lJ at b ⊢
   rw [a]at b
   rw [show (x::l)[i+1]?=some y by simpa using a]
   exact b
  |none=>
   rw [hn]at h
   simp only at h
   split at h
   ·rename_i hc
    obtain rfl:x=r:=by simpa using h
    refine ⟨0,rfl,?_,hc.2,hc.1⟩
    have hx:=ht x (.head _)
    unfold lJ
    simp only [alg,aen,List.drop_one,List.tail_cons,ajc,adN]
    refine ⟨by omega,?_⟩
    rw [← U7 fun r h=>ht r (.tail _ h),hc.2];exact hn
   ·cases h
theorem Rt:∀ {l:List Row}{k:Bs}{r x:Row},l.Pairwise (fun a b=>a.1≤b.1)→lU l k=some r→x∈l→eu x=0→fZ x=k→r.1≤x.1
 |[],_,_,_,_,h,_,_,_=>by cases h
 |y::l,k,r,x,hp,h,hx,h0,hk=>by
  obtain ⟨p1,p2⟩:=akl.1 hp
  simp only [lU]at h
  split at h
  ·obtain rfl:y=r:=by simpa using h
   rcases aer.1 hx with rfl|hx
   ·exact alC _
   ·exact p1 x hx
  ·rename_i hc
   rcases aer.1 hx with rfl|hx
   ·exact absurd ⟨h0,hk⟩ hc
   ·exact Rt p2 h hx h0 hk
theorem ab3 {l:List Row}{k:Bs} (h:lU l k=none):∀ x∈l,¬ (eu x=0∧fZ x=k):=by
 induction l with
 |nil=>intro x hx;cases hx
 |cons y l ih=>
  simp only [lU]at h
  split at h
  ·cases h
  ·rename_i hc
   intro x hx
   rcases aer.1 hx with rfl|hx
   ·exact hc
   ·exact ih h x hx
theorem Qv {l:List Row}{i:Nat}{r:Row} (hl:Rows l) (hi:l[i]?=some r) (hn:lJ l i=true):∃ a,ledger l (fZ r)=some a∧a.tag=eu r∧a.place=jV r∧counts a=cnt l i:=by
 have h1:=Va hl.tag hi hn
 refine ⟨⟨eu r,jV r,first l (fZ r)⟩,by unfold ledger;rw [h1];rfl,rfl,rfl,?_⟩
 have hmem:=abA hi
 have h2:eu r≠2:=by
  unfold lJ at hn
  rw [hi]at hn
  simp only [ajc,adN]at hn
  have:=hn.1
  omega
 unfold cnt
 rw [hi]
 simp only [hn,h2,decide_false,Bool.not_false,Bool.true_and]
 unfold counts
 simp only
 by_cases h0:eu r=0
 ·simp [h0]
 ·simp only [h0,decide_false,Bool.false_or]
  rw [akJ]
  simp only [ajc,adN,List.any_eq_true]
  unfold first jV
  simp only
  cases hf:lU l (fZ r) with
  |none=>
   simp only
   constructor
   ·intro h;omega
   ·rintro ⟨x,hx,⟨h3,h4⟩,_⟩
    exact absurd ⟨h3,h4⟩ (ab3 hf x (ajm hx))
  |some y=>
   obtain ⟨m1,m2,m3⟩:=Ru hf
   simp only
   constructor
   ·rintro ⟨_,h5⟩
    obtain ⟨j,hj,he⟩:=akp m1
    have hij:j<i:=by
     rcases akT j i with q|q|q
     ·exact q
     ·subst q
      rw [aak hj,he]at hi;cases hi
      exact absurd m2 h0
     ·obtain ⟨hi',he'⟩:=abl.1 hi
      have:=akQ.1 hl.rise i j hi' hj q
      rw [he,he']at this;omega
    refine ⟨y,?_,⟨m2,m3⟩,h5⟩
    rw [List.mem_take_iff_getElem]
    exact ⟨j,by omega,he⟩
   ·rintro ⟨x,hx,⟨h3,h4⟩,h5⟩
    have:=Rt hl.rise hf (ajm hx) h3 h4
    exact ⟨hl.seg y m1,by omega⟩
theorem aaT {l:List Row}{i:Nat} (h:cnt l i=true):lJ l i=true:=by
 unfold cnt at h
 split at h
 ·cases h
 ·simp only [ajc]at h
  exact h.1.2
end Go.Rep
namespace Go.Tab
open Go.aj (Bs)
theorem EG (a b:Bs):a<b∨a=b∨b<a:=by
 by_cases h1:a<b
 ·exact .inl h1
 ·rcases List.le_iff_lt_or_eq.1 (List.not_lt.1 h1) with h2|h2
  ·exact .inr (.inr h2)
  ·exact .inr (.inl h2.symm)
structure Lists {V:Type} (m:Bs→Option V) (l:List (Bs×V)):Prop where
 rise:l.Pairwise fun a b=>a.1<b.1
 mem:∀ k v,(k,v)∈l↔m k=some v
theorem Wy {V:Type}:∀ {l l':List (Bs×V)},l.Pairwise (fun a b=>a.1<b.1)→l'.Pairwise (fun a b=>a.1<b.1)→(∀ p,p∈l↔p∈l')→l=l'
 |[],[],_,_,_=>rfl
 |[],b::l',_,_,h=>by have:=(h b).2 (.head _);cases this
 |a::l,[],_,_,h=>by have:=(h a).1 (.head _);cases this
 |a::l,b::l',h1,h2,h=>by
  obtain ⟨a1,a2⟩:=akl.1 h1
  obtain ⟨b1,b2⟩:=akl.1 h2
  have hab:a=b:=by
   rcases aer.1 ((h a).1 (.head _)) with e|h3
   ·exact e
   ·rcases aer.1 ((h b).2 (.head _)) with e|h4
    ·exact e.symm
    ·exact absurd (alD (b1 a h3) (a1 b h4)) (ak2 _)
  subst hab
  congr 1
  refine Wy a2 b2 fun p=>?_
  have:=h p
  rw [aer,aer]at this
  constructor
  ·intro hp
   rcases this.1 (.inr hp) with e|h3
   ·subst e;exact absurd (a1 p hp) (ak2 _)
   ·exact h3
  ·intro hp
   rcases this.2 (.inr hp) with e|h3
   ·subst e;exact absurd (b1 p hp) (ak2 _)
   ·exact h3
theorem Lists.unique {V:Type}{m:Bs→Option V}{l l':List (Bs×V)} (h:Lists m l) (h':Lists m l'):l=l':=
 Wy h.rise h'.rise fun p=>by rw [h.mem p.1 p.2,h'.mem p.1 p.2]
theorem Lists.keys {V:Type}{m:Bs→Option V}{l:List (Bs×V)} (h:Lists m l):(l.map (·.1)).Nodup:=by
 rw [List.nodup_iff_pairwise_ne,aki]
 exact h.rise.imp fun {a b} hab e=>by rw [e]at hab;exact ak2 _ hab
def ins {V:Type}:List (Bs×V)→Bs×V→List (Bs×V)
 |[],x=>[x]
 |y::l,x=>if x.1<y.1 then x::y::l else y::ins l x
end Go.Tab
namespace Go.Rep
open Go.aj (Bs fO)
open Go.Seg (aU)
open Go.Tab
def idx (l:List Row):Nat→List (Bs×aU)
 |0=>[]
 |i+1=>match l[i]? with
  |none=>idx l i
  |some r=>if cnt l i=true∧eu r=0 then ins (idx l i) (fZ r,jV r) else idx l i
def live (l:List Row) (s:Int):Nat→Int
 |0=>0
 |i+1=>match l[i]? with
  |none=>live l s i
  |some r=>if cnt l i=true∧r.1=s then live l s i+r.2.size else live l s i
def fF (s:Int):List (Bs×dF)→Int
 |[]=>0
 |p::l=>(if counts p.2=true∧p.2.place.seg=s then p.2.place.size else 0)+fF s l
def puts (kv:List (Bs×dF)):List (Bs×aU):=(kv.filter fun p=>decide (p.2.tag=0)).map fun p=>(p.1,p.2.place)
theorem aeO {l:List Row}{i j:Nat}{r x:Row} (hi:l[i]?=some r) (hj:l[j]?=some x) (h1:lJ l i=true) (h2:lJ l j=true) (hk:fZ r=fZ x):i=j:=by
 have aux:∀ {i j:Nat} {r x:Row},l[i]?=some r→l[j]?=some x→lJ l i=true→lJ l j=true→fZ r=fZ x→¬ i<j:=by
  intro i j r x hi hj h1 h2 hk hlt
  unfold lJ at h1 h2
  rw [hi]at h1;rw [hj]at h2
  simp only [ajc,adN,ajE]at h1 h2
  have hm:x∈l.drop (i+1):=by
   refine abA (i:=j - (i+1)) ?_
   rw [akG,show i+1+(j - (i+1))=j by omega];exact hj
  have:=h1.2 x hm
  simp [h2.1,hk]at this
 rcases akT i j with q|q|q
 ·exact absurd q (aux hi hj h1 h2 hk)
 ·exact q
 ·exact absurd q (aux hj hi h2 h1 hk.symm)
def rY (l:List Row):Nat→List Bs
 |0=>[]
 |i+1=>match l[i]? with
  |none=>rY l i
  |some r=>if lJ l i=true then fZ r::rY l i else rY l i
theorem L8 {l:List Row}:∀ {n:Nat}{k:Bs},k∈rY l n↔∃ i r,i<n∧l[i]?=some r∧lJ l i=true∧fZ r=k
 |0,k=>by simp [rY]
 |n+1,k=>by
  have ih:=@L8 l n k
  unfold rY
  constructor
  ·intro h
   split at h
   ·obtain ⟨i,r,a,b⟩:=ih.1 h;exact ⟨i,r,by omega,b⟩
   ·rename_i r hr
    split at h
    ·rename_i hc
     rcases aer.1 h with e|h
     ·exact ⟨n,r,by omega,hr,hc,e.symm⟩
     ·obtain ⟨i,r,a,b⟩:=ih.1 h;exact ⟨i,r,by omega,b⟩
    ·obtain ⟨i,r,a,b⟩:=ih.1 h;exact ⟨i,r,by omega,b⟩
  ·rintro ⟨i,r,hi,hr,hc,rfl⟩
   by_cases hin:i<n
   ·have:=ih.2 ⟨i,r,hin,hr,hc,rfl⟩
    split
    ·exact this
    ·split
     ·exact .tail _ this
     ·exact this
   ·obtain rfl:i=n:=by omega
    rw [hr]
    simp only
    rw [ac3 hc]
    exact .head _
theorem FQ {l:List Row}:∀ n,(rY l n).Nodup
 |0=>List.nodup_nil
 |n+1=>by
  unfold rY
  split
  ·exact FQ n
  ·rename_i r hr
   split
   ·rename_i hc
    refine akx.2 ⟨fun h=>?_,FQ n⟩
    obtain ⟨i,x,a,b,c,d⟩:=L8.1 h
    have:=aeO b hr c hc d
    omega
   ·exact FQ n
def adds (l:List Row) (s:Int) (k:Bs):Int:=match ledger l k with
 |some a=>if counts a=true∧a.place.seg=s then a.place.size else 0
 |none=>0
theorem ahQ {f:Bs→Int}{l l':List Bs} (h:l.Perm l'):(l.map f).sum=(l'.map f).sum:=by
 induction h with
 |nil=>rfl
 |cons x _ ih=>simp only [ag8,aln,ih]
 |swap x y l=>simp only [ag8,aln];omega
 |trans _ _ h1 h2=>rw [h1,h2]
theorem UQ {l:List Row} (hl:Rows l) (s:Int):∀ n,live l s n=((rY l n).map (adds l s)).sum
 |0=>rfl
 |n+1=>by
  have ih:=UQ hl s n
  unfold live rY
  split
  ·rename_i hr;rw [ih]
  ·rename_i r hr
   by_cases hn:lJ l n=true
   ·obtain ⟨a,h1,h2,h3,h4⟩:=Qv hl hr hn
    rw [ac3 hn,ag8,aln,ih]
    unfold adds
    rw [h1]
    simp only
    rw [h4,h3,show (jV r).seg=r.1 from rfl,show (jV r).size=(r.2.size:Int) from rfl]
    split
    ·exact Int.add_comm _ _
    ·exact (Int.zero_add _).symm
   ·rw [abw hn,abw (fun h=>hn (aaT h.1)),ih]
theorem UN {l:List Row} (s:Int):∀ (kv:List (Bs×dF)),(∀ p∈kv,ledger l p.1=some p.2)→fF s kv=((kv.map (·.1)).map (adds l s)).sum
 |[],_=>rfl
 |p::kv,h=>by
  rw [ag8,ag8,aln,← UN s kv fun q hq=>h q (.tail _ hq)]
  unfold adds
  rw [h p (.head _)]
  rfl
theorem ael {l:List Row} (hl:Rows l){kv:List (Bs×dF)} (hk:Lists (ledger l) kv) (s:Int):live l s l.length=fF s kv:=by
 rw [UQ hl,UN s kv fun p hp=>(hk.mem p.1 p.2).1 hp]
 refine ahQ ((List.perm_ext_iff_of_nodup (FQ _) hk.keys).2 fun k=>?_)
 rw [L8,acK]
 constructor
 ·rintro ⟨i,r,_,hr,hn,rfl⟩
  obtain ⟨a,h1,_⟩:=Qv hl hr hn
  exact ⟨(fZ r,a),(hk.mem _ _).2 h1,rfl⟩
 ·rintro ⟨⟨k',a⟩,hp,rfl⟩
  have h3:=(hk.mem _ _).1 hp
  unfold ledger at h3
  cases hn:newest l k' with
  |none=>rw [hn]at h3;cases h3
  |some r=>
   obtain ⟨i,a,b,c,_⟩:=Vd hl.tag hn
   exact ⟨i,r,(abl.1 a).1,a,b,c⟩
end Go.Rep
namespace Go.Proofs.YtiglchkhikciiaaGreatDoor
open Go Go.Sl Go.ay Go.MapKept Go.RowKit
section
variable {P:Program}{w0 w:World}{L L' R:List aG}{b:Nat}{ops:Array Oper}{rest:List Oper}{a:Act}{Q:Exit→Act→World→Prop}
variable {dst:Option Tmp}{t ty T:TypeId}{pos:String}{after:Array Edge}{x y z:Operand}{cs:Array Value}{v:Value}{o:Nat}
variable {vx vy:Value}{ad:Addr}{fl:Nat}{bo:BinOp}{uo:UnOp}{tz:TypeId}{G:World→Prop}
theorem fM {g:Option (Nat×Bool)} (hw:Region.wanted ⟨dst,.move x,t,pos,after,g⟩ (yielded ops a.tmps)=true) (hx:a.eval x=v):Yields P ops ⟨dst,.move x,t,pos,after,g⟩ v a:=
 .inl ⟨hw,fun w=>by simp only [execOp,hx];rfl⟩
theorem wX {g:Option (Nat×Bool)} (hw:Region.wanted ⟨dst,.nilCheck x,t,pos,after,g⟩ (yielded ops a.tmps)=true) (hx:a.eval x = .pointer (some ad)):Yields P ops ⟨dst,.nilCheck x,t,pos,after,g⟩ (.pointer (some ad)) a:=
 .inl ⟨hw,fun w=>by simp only [execOp,hx];rfl⟩
theorem kT {g:Option (Nat×Bool)} (hw:Region.wanted ⟨dst,.fieldAddr ty x fl,t,pos,after,g⟩ (yielded ops a.tmps)=true) (hx:a.eval x=vx) (hr:∀ w,(Instr.fieldAt ty vx fl).run P w = .ok v w):Yields P ops ⟨dst,.fieldAddr ty x fl,t,pos,after,g⟩ v a:=
 .inl ⟨hw,fun w=>by simp only [execOp,hx,adO,hr,ac2,aeC]⟩
theorem pO {g:Option (Nat×Bool)} (hw:Region.wanted ⟨dst,.indexAddr ty x y,t,pos,after,g⟩ (yielded ops a.tmps)=true) (hx:a.eval x=vx) (hy:a.eval y=vy) (hr:∀ w,(Instr.indexAt ty vx vy).run P w = .ok v w):Yields P ops ⟨dst,.indexAddr ty x y,t,pos,after,g⟩ v a:=
 .inl ⟨hw,fun w=>by simp only [execOp,hx,hy,adO,hr,ac2,aeC]⟩
theorem oV {g:Option (Nat×Bool)} (hw:Region.wanted ⟨dst,.binOp bo ty x y tz,t,pos,after,g⟩ (yielded ops a.tmps)=true) (hx:a.eval x=vx) (hy:a.eval y=vy) (hr:∀ w,((do eqGuard bo ty x y vx vy;binOp bo ty vx vy):Sem Value).run P w = .ok v w):Yields P ops ⟨dst,.binOp bo ty x y tz,t,pos,after,g⟩ v a:=
 .inl ⟨hw,fun w=>by simp only [execOp,hx,hy,adO (x:=(do eqGuard bo ty x y vx vy;binOp bo ty vx vy)),hr,ac2,aeC]⟩
theorem aiW {g:Option (Nat×Bool)} (hw:Region.wanted ⟨dst,.unOp uo ty x,t,pos,after,g⟩ (yielded ops a.tmps)=true) (hx:a.eval x=vx) (hr:∀ w,(Op.unary uo vx).run P w = .ok v w):Yields P ops ⟨dst,.unOp uo ty x,t,pos,after,g⟩ v a:=
 .inl ⟨hw,fun w=>by simp only [execOp,hx,adO,hr,ac2,aeC]⟩
theorem Yp {g:Option (Nat×Bool)} (hw:Region.wanted ⟨dst,.call { callee:= .builtin .len,args:=#[x],argTypes:=#[ty] },t,pos,after,g⟩ (yielded ops a.tmps)=true) (hx:a.eval x=vx) (hr:∀ w,(Builtin.len_ #[ty] t #[vx]).run P w = .ok v w):Yields P ops ⟨dst,.call { callee:= .builtin .len,args:=#[x],argTypes:=#[ty] },t,pos,after,g⟩ v a:=
 .inl ⟨hw,fun w=>by
  rw [Rj,hx]
  simp only [adO,hr,ac2,aeC]⟩
theorem kY {g:Option (Nat×Bool)} (hw:Region.wanted ⟨dst,.load ty x,t,pos,after,g⟩ (yielded ops a.tmps)=true) (hx:a.eval x = .pointer (some ad)) (h1:wu P ty=true) (hG:∀ w,G w→w.cell? ad=some v):YieldsIf P ops G ⟨dst,.load ty x,t,pos,after,g⟩ v a:=
 .inl ⟨hw,fun w hw=>by
  obtain ⟨b,o,el⟩:=ad
  have hc:=hG w hw
  simp only [execOp,hx,Instr.loadAt,Instr.sureAddr,adO,aeC,ac2,Xg h1 hc]⟩
theorem jX {g:Option (Nat×Bool)}{c:Bool} (hw:Region.wanted ⟨dst,.pick x y z,t,pos,after,g⟩ (yielded ops a.tmps)=true) (hx:a.eval x = .bool c) (hv:(if c then a.eval y else a.eval z)=v):Yields P ops ⟨dst,.pick x y z,t,pos,after,g⟩ v a:=
 .inl ⟨hw,fun w=>by
  subst hv
  simp only [execOp,hx]
  cases c <;> rfl⟩
theorem qm {g:Option (Nat×Bool)}{f:FuncId}{xs:Array Operand}{ts:Array TypeId}{K:Act→World→Prop}{E:Prop} (vs:List Value) (hw:Region.wanted ⟨dst,.call { callee:= .value (.func f),args:=xs,argTypes:=ts },t,pos,after,g⟩ (yielded ops a.tmps)=true) (hf:goB P f=true) (hv:xs.toList.map a.eval=vs)
  (h:Calls P f vs.toArray w (Upon K Q a dst)):if Region.wanted ⟨dst,.call { callee:= .value (.func f),args:=xs,argTypes:=ts },t,pos,after,g⟩ (yielded ops a.tmps)=true then
   Oper.wp P ⟨dst,.call { callee:= .value (.func f),args:=xs,argTypes:=ts },t,pos,after,g⟩ a w K Q else E:=by
 rw [ac3 hw]
 have h0:=zu (P:=P) (ops:=ops) (a:=a) (w:=w) (Q:=Q) (dst:=dst) (t:=t) (pos:=pos) (after:=after) (K:=K) (E:=False) (xs:=xs) (ts:=ts) vs hf hv h
 rw [ac3 (kS _ rfl)]at h0
 exact h0
theorem dP {l:Array Bool}{n:Nat}{late:List Nat}{oi:Oper} (i:Nat) (hi:ops.toList[i]?=some oi) (hc:(Region.noSelect ops && Region.free .any ops l i && (Region.ready .any ops l).contains i && sK ops l)=true)
  (hQ:∀ c a w,Q (.panic c) (a.put oi.dst undef) w→Q (.panic c) a w) (hw:Region.wanted oi (yielded ops a.tmps)=false) {a':Act} (ha:a.put oi.dst undef=a')
  (h:iI P ops Q late G n (l.setIfInBounds i true) a' w):iI P ops Q late G (n+1) l a w:=
 Gq i hi hc hQ (.inr ⟨hw,rfl⟩) ha h
end
end Go.Proofs.YtiglchkhikciiaaGreatDoor
namespace Go.ay
def ay.which (D:ay) (s:ByteArray):Int:=match bP D.now s with
 |none=> -1
 |some i=>(i:Int)
end Go.ay
namespace Go.Proofs.YtiglchkhikciiaaGreatDoor
open Go Go.Sl Go.ay Go.MapKept Go.RowKit
abbrev Iw:=List (Value×Names)
structure RF where
 f:bC
 fv:Value
 nv:Value
 wv:Value
 ws:List (iJ×Value)
abbrev ajp (d:Nat) (D:ay) (EZ fv nv wv:Value):aG:=
 pt d (.cells #[.int .i64 D.room,EZ,fv,nv,wv,.bool D.armed,.int .i64 D.left,.bool D.off] 460 (0,0))
section
variable {w0 w:World}{b o:Nat}{ops:Array Oper}{rest:List Oper}{a:Act}{Q:Exit→Act→World→Prop}{dst:Option Tmp}{t ty:TypeId}{pos:String}{after:Array Edge}{x:Operand}{P:Program}
end
section
variable {w0 w:World}{F R:List aG}{d:Nat}{D:ay}{EZ fv nv wv v:Value}{xs:List RF}{g:Iw}{K:Nat}
theorem XH:∀ (l:List aG) (A:aG),A∈l→∃ G,stars l=star A G
 |B::l,A,h=>by
  rcases aer.1 h with rfl|h
  ·exact ⟨_,rfl⟩
  ·obtain ⟨G,hG⟩:=XH l A h
   refine ⟨star B G,?_⟩
   show star B (stars l)=_
   rw [hG,wR]
end
section
variable {P:Program}{w0 w:World}{L L':List aG}{b o:Nat}{ops:Array Oper}{a:Act}{Q:Exit→Act→World→Prop}{dst:Option Tmp}{t ty T:TypeId}{pos:String}{after:Array Edge}{x y:Operand}{cs:Array Value}{v:Value}{K:Act→World→Prop}{E:Prop}
theorem kP (hs:Sat w0 w L) (hx:a.eval x = .pointer (some ⟨b,o,none⟩)) (hy:a.eval y=v){cs':Array Value} (hcs:dM cs o v.cells.toList=cs') (u:ng (pt b (.cells cs T (0,0))) (pt b (.cells cs' T (0,0))) L L') (hfit:o+v.cells.size≤cs.size)
  (hi:(P.info? ty).map (·.size)=some v.cells.size) (h1:v.cells.toList.all (·.oneCell')=true)
  (hK:∀ w',Sat w0 w' L'→K (a.put dst undef) w') :
  if Region.wanted ⟨dst,.store ty x y,t,pos,after,none⟩ (yielded ops a.tmps)=true then Oper.wp P ⟨dst,.store ty x y,t,pos,after,none⟩ a w K Q else E:=by
 subst hcs
 obtain ⟨R',h2,h3⟩:=u
 refine xU rfl ?_
 have h:=hs.perm h2
 have hth:w.there b o v.cells.size:=by
  intro j hj
  refine ⟨?_,h.nR _⟩
  rw [h.cellAt (o+j) _ (akh (show o+j<cs.size by omega))]
  rfl
 have hst:=run_storeCells_cells (P:=P) b o v.cells.toList 0 w (fun j hj=>by simpa using (hth j (by simpa using hj)).1) (fun j hj=>by simpa using (hth j (by simpa using hj)).2)
  (fun u hu=>(ajE.1 h1) u hu)
 have hrun:(storeVar ty ⟨b,o,none⟩ v).run P w = .ok () (w.setCells b o v.cells.toList):=by
  cases hq:P.info? ty with
  |none=>simp [hq]at hi
  |some i=>
   have hs:v.cells.size=i.size:=by simp [hq]at hi;omega
   simp only [akc]at hst
   simp [storeVar,sizeOf,typeInfo,hq,hs,hst]
 unfold Oper.wp execOp
 simp only [hx,hy,Instr.storeAt,Instr.sureAddr,adO,aeC,ac2,hrun]
 exact hK _ ((Sat.sets _ _ h).perm h3.symm)
end
def RF.zero:RF:=⟨bC.new,.slice none 0 0,.slice none 0 0,.slice none 0 0,[]⟩
section
variable {w0 w:World}{F R:List aG}{d:Nat}{D:ay}{EZ fv nv wv v lv:Value}{xs:List RF}{g:Iw}{K:Nat}
end
end Go.Proofs.YtiglchkhikciiaaGreatDoor
namespace Go.ay
theorem OC (l:Bs) (i:Nat) (y:UInt8):(iU l i y).length=l.length:=by unfold iU;simp
def Alike (c d:iJ):Prop:=d.cut=c.cut∧d.n=c.n∧d.b.length=c.b.length
theorem afd {c d:iJ} (h:Alike c d){l l':Bs} (hl:l'.length=l.length):(d.on l').length=(c.on l).length:=by
 obtain ⟨h1,h2,h3⟩:=h
 unfold iJ.on
 rw [h1]
 split
 ·simp [h2,hl]
 ·simp [h3,hl]
theorem at_len {f g:bC} (h0:g.fast.length=f.fast.length) (hw:g.waits.length=f.waits.length)
  (hc:∀ (k:Nat) (c d:iJ),f.waits[k]?=some c→g.waits[k]?=some d→Alike c d):∀ k,k≤f.waits.length→(g.at k).length=(f.at k).length:=by
 intro k
 induction k with
 |zero=>intro _;exact h0
 |succ k ih=>
  intro hk
  have h1:f.waits[k]?=some (f.waits[k]'oQ):=aak _
  have h2:g.waits[k]?=some (g.waits[k]'oQ):=aak _
  rw [f.xM k _ h1,g.xM k _ h2]
  exact afd (hc k _ _ h1 h2) (ih oQ)
theorem aiS {l:Bs}{i:Nat} (y:UInt8) (b:Bs) (h:i<l.length):iU (l++b) i y=iU l i y++b:=by
 unfold iU
 rw [List.set_append_left _ _ h,adP,adV h,adP]
theorem aiT {l:Bs}{i:Nat} (y:UInt8) (b:Bs) (h:l.length≤i):iU (l++b) i y=l++iU b (i - l.length) y:=by
 unfold iU
 rw [List.set_append_right _ _ h,adP,adQ h,adP]
theorem aiU (l:Bs) (i n:Nat) (y:UInt8):(iU l i y).take n=iU (l.take n) i y:=by
 unfold iU
 rw [List.take_set]
 by_cases h:i<n
 ·rw [adP,adP,List.getElem?_take_of_lt h]
 ·rw [List.set_eq_of_length_le (by simp;omega),List.set_eq_of_length_le (by simp;omega)]
theorem afe (c:iJ) (l:Bs) (i:Nat) (y:UInt8) (h:c.cut=true∨i<l.length):c.on (iU l i y)=iU (c.on l) i y:=by
 unfold iJ.on
 cases hc:c.cut
 ·simp only [ajK,akO]
  rcases h with h|h
  ·rw [hc]at h;cases h
  ·exact (aiS y c.b h).symm
 ·simp only [akL];exact aiU l i c.n y
def Past (f:bC) (i k n:Nat):Prop:=∀ (j:Nat) (c:iJ),k≤j→j<n→f.waits[j]?=some c→c.cut=true∨i<(f.at j).length
theorem Qg {f g:bC}{i k:Nat}{y:UInt8} (h0:g.at k=iU (f.at k) i y) (hw:∀ j,k≤j→g.waits[j]?=f.waits[j]?) (hp:Past f i k f.waits.length) :
  ∀ j,k≤j→j≤f.waits.length→g.at j=iU (f.at j) i y:=by
 intro j hj
 induction hj with
 |refl=>intro _;exact h0
 |@step j hk ih=>
  intro hl
  have h1:f.waits[j]?=some (f.waits[j]'oQ):=aak _
  have h2:g.waits[j]?=some (f.waits[j]'oQ):=by rw [hw j hk];exact h1
  rw [f.xM j _ h1,g.xM j _ h2,ih oQ]
  exact afe _ _ _ _ (hp j _ hk oQ h1)
theorem WL (f:bC) (i:Nat) (y:UInt8):∀ n,n≤f.waits.length →
  (wL f i y n=none∧Past f i 0 n) ∨
  ∃ (k:Nat) (c:iJ),k<n∧f.waits[k]?=some c∧c.cut=false∧(f.at k).length≤i∧wL f i y n=some (f.waits.set k { c with b:=iU c.b (i - (f.at k).length) y })∧Past f i (k+1) n
 |0,_=> .inl ⟨rfl,fun j c _ h=>by omega⟩
 |n+1,hn=>by
  have h1:f.waits[n]?=some (f.waits[n]'oQ):=aak _
  generalize f.waits[n]'oQ=c at h1
  have step:(c.cut=true∨i<(f.at n).length)→wL f i y (n+1)=wL f i y n:=by
   intro h
   show (match f.waits[n]? with|none=>_|some c=>_)=_
   rw [h1]
   simp only
   rcases h with h|h
   ·rw [ac3 h]
   ·split
    ·rfl
    ·rw [abw oQ]
  have past:∀ k,(c.cut=true∨i<(f.at n).length)→Past f i k n→Past f i k (n+1):=by
   intro k h hp j d hk hj hd
   rcases akf j n with hlt|hge
   ·exact hp j d hk hlt hd
   ·obtain rfl:j=n:=by omega
    rw [h1]at hd;cases hd;exact h
  by_cases h:c.cut=true∨i<(f.at n).length
  ·rcases WL f i y n oQ with ⟨h2,h3⟩|⟨k,d,h2,h3,h4,h5,h6,h7⟩
   ·exact .inl ⟨(step h).trans h2,past 0 h h3⟩
   ·exact .inr ⟨k,d,by omega,h3,h4,h5,(step h).trans h6,past _ h h7⟩
  ·have hc:c.cut=false:=by cases hcc:c.cut;rfl;exact absurd (.inl hcc) h
   have hl:(f.at n).length≤i:=Nat.le_of_not_lt fun h'=>h (.inr h')
   refine .inr ⟨n,c,by omega,h1,hc,hl,?_,fun j d hk hj=>by omega⟩
   show (match f.waits[n]? with|none=>_|some c=>_)=_
   rw [h1]
   simp only [hc,ajK,akO]
   rw [ac3 hl]
theorem WM {f g:bC}{K:Nat} (h:f.Ok K) (h0:g.fast.length=f.fast.length) (hw:g.waits.length=f.waits.length)
  (hc:∀ (k:Nat) (c d:iJ),f.waits[k]?=some c→g.waits[k]?=some d→Alike c d) (hn:g.now=g.at f.waits.length):g.Ok K:=by
 have hl:=at_len h0 hw hc
 refine ⟨by rw [hw];exact hn,?_,?_,by rw [hw];exact h.budget⟩
 ·intro k d hk hd
  have hlt:k<g.waits.length:=(abl.1 hk).1
  obtain ⟨c,hcc⟩:∃ c,f.waits[k]?=some c:=⟨f.waits[k]'oQ,aak _⟩
  obtain ⟨a1,a2,a3⟩:=hc k c d hcc hk
  rw [hl k oQ,a2]
  exact h.cuts k c hcc (by rw [← a1];exact hd)
 ·intro k hk
  rw [hl k oQ]
  exact h.size k oQ
theorem bC.Ok.lY {f:bC}{K:Nat} (h:f.Ok K) (i:Nat) (y:UInt8):(f.lY i y).Ok K∧(f.lY i y).now=iU f.now i y:=by
 rcases WL f i y f.waits.length (acy _) with ⟨h1,h2⟩|⟨k,c,hk,hc,hcut,hlen,h1,h2⟩
 ·have e:f.lY i y={ f with now:=iU f.now i y,fast:=iU f.fast i y }:=by unfold bC.lY;rw [h1]
  rw [e]
  refine ⟨WM h (OC _ _ _) rfl (fun k c d h3 h4=>?_) ?_,rfl⟩
  ·rw [h3]at h4;cases h4;exact ⟨rfl,rfl,rfl⟩
  ·have:=Qg (f:=f) (g:={ f with now:=iU f.now i y,fast:=iU f.fast i y }) (i:=i) (k:=0) (y:=y) rfl (fun j _=>rfl) h2 f.waits.length (afm _) (acy _)
   rw [this,← h.now]
 ·have e:f.lY i y={ f with now:=iU f.now i y,waits:=f.waits.set k { c with b:=iU c.b (i - (f.at k).length) y } }:=by unfold bC.lY;rw [h1]
  rw [e]
  have hset:(f.waits.set k { c with b:=iU c.b (i - (f.at k).length) y })[k]?=some { c with b:=iU c.b (i - (f.at k).length) y }:=by rw [List.getElem?_set_self hk]
  refine ⟨WM h rfl (by simp) (fun j c' d h3 h4=>?_) ?_,rfl⟩
  ·simp only at h4
   by_cases hj:k=j
   ·subst hj
    rw [hset]at h4
    rw [hc]at h3
    cases h3;cases h4
    exact ⟨rfl,rfl,OC _ _ _⟩
   ·rw [List.getElem?_set_ne hj,h3]at h4
    cases h4;exact ⟨rfl,rfl,rfl⟩
  ·generalize hg:({ f with now:=iU f.now i y,waits:=f.waits.set k { c with b:=iU c.b (i - (f.at k).length) y } }:bC)=g
   have hgw:g.waits=f.waits.set k { c with b:=iU c.b (i - (f.at k).length) y }:=by rw [← hg]
   have hgf:g.fast=f.fast:=by rw [← hg]
   have hgn:g.now=iU f.now i y:=by rw [← hg]
   have hk0:g.at k=f.at k:=by unfold bC.at;rw [hgw,hgf,List.take_set_of_le (acy _)]
   have hk1:g.at (k+1)=iU (f.at (k+1)) i y:=by
    rw [g.xM k _ (by rw [hgw];exact hset),hk0,f.xM k c hc]
    unfold iJ.on
    simp only [hcut,ajK,akO]
    rw [aiT y c.b hlen]
   have:=Qg hk1 (fun j hj=>by rw [hgw,List.getElem?_set_ne oQ]) h2 f.waits.length hk (acy _)
   rw [this,hgn,← h.now]
structure Cal where
 kind:Int
 name:ByteArray
 to:ByteArray
 n:Int
 m:Int
 b:Bs
 l:List Int
def yD (m:Int):UInt8:=UInt8.ofNat (m%256).toNat
def ay.does (M:ay) (x:Cal):ay×(Bs×Int×Bool):=
 if x.kind=0 then ((M.create x.name).1,[],(M.create x.name).2,false)
 else if x.kind=1 then ((M.append x.name x.b).1,[],(M.append x.name x.b).2,false)
 else if x.kind=2 then ((M.truncate x.name x.n).1,[],(M.truncate x.name x.n).2,false)
 else if x.kind=3 then ((M.rename x.name x.to).1,[],(M.rename x.name x.to).2,false)
 else if x.kind=4 then ((M.remove x.name).1,[],(M.remove x.name).2,false)
 else if x.kind=5 then ((M.sync x.name).1,[],(M.sync x.name).2,false)
 else if x.kind=6 then (M.dN.1,[],M.dN.2,false)
 else if x.kind=7 then ((M.arm x.n).1,[],(M.arm x.n).2,false)
 else if x.kind=8 then (M.crash x.l,[],0,false)
 else if x.kind=9 then ((M.Ah x.n).1,[],(M.Ah x.n).2,false)
 else if x.kind=10 then ((M.lY x.name x.n (yD x.m)).1,[],0,(M.lY x.name x.n (yD x.m)).2)
 else (M,(M.read x.name x.n x.m).1,(M.read x.name x.n x.m).2,false)
theorem ay.abq {P:ay×Bs×Int×Bool→Prop}{M:ay}{x:Cal}
  (h0:x.kind=0→P ((M.create x.name).1,[],(M.create x.name).2,false))
  (h1:x.kind=1→P ((M.append x.name x.b).1,[],(M.append x.name x.b).2,false))
  (h2:x.kind=2→P ((M.truncate x.name x.n).1,[],(M.truncate x.name x.n).2,false))
  (h3:x.kind=3→P ((M.rename x.name x.to).1,[],(M.rename x.name x.to).2,false))
  (h4:x.kind=4→P ((M.remove x.name).1,[],(M.remove x.name).2,false))
  (h5:x.kind=5→P ((M.sync x.name).1,[],(M.sync x.name).2,false))
  (h6:x.kind=6→P (M.dN.1,[],M.dN.2,false))
  (h7:x.kind=7→P ((M.arm x.n).1,[],(M.arm x.n).2,false))
  (h8:x.kind=8→P (M.crash x.l,[],0,false))
  (h9:x.kind=9→P ((M.Ah x.n).1,[],(M.Ah x.n).2,false))
  (h10:x.kind=10→P ((M.lY x.name x.n (yD x.m)).1,[],0,(M.lY x.name x.n (yD x.m)).2))
  (hz:x.kind≠0∧x.kind≠1∧x.kind≠2∧x.kind≠3∧x.kind≠4∧x.kind≠5∧x.kind≠6∧x.kind≠7∧x.kind≠8∧x.kind≠9∧x.kind≠10→P (M,(M.read x.name x.n x.m).1,(M.read x.name x.n x.m).2,false)):P (M.does x):=by
 unfold ay.does
 by_cases c0:x.kind=0;· rw [ac3 c0];exact h0 c0
 rw [abw c0]
 by_cases c1:x.kind=1;· rw [ac3 c1];exact h1 c1
 rw [abw c1]
 by_cases c2:x.kind=2;· rw [ac3 c2];exact h2 c2
 rw [abw c2]
 by_cases c3:x.kind=3;· rw [ac3 c3];exact h3 c3
 rw [abw c3]
 by_cases c4:x.kind=4;· rw [ac3 c4];exact h4 c4
 rw [abw c4]
 by_cases c5:x.kind=5;· rw [ac3 c5];exact h5 c5
 rw [abw c5]
 by_cases c6:x.kind=6;· rw [ac3 c6];exact h6 c6
 rw [abw c6]
 by_cases c7:x.kind=7;· rw [ac3 c7];exact h7 c7
 rw [abw c7]
 by_cases c8:x.kind=8;· rw [ac3 c8];exact h8 c8
 rw [abw c8]
 by_cases c9:x.kind=9;· rw [ac3 c9];exact h9 c9
 rw [abw c9]
 by_cases c10:x.kind=10;· rw [ac3 c10];exact h10 c10
 rw [abw c10]
 exact hz ⟨c0,c1,c2,c3,c4,c5,c6,c7,c8,c9,c10⟩
structure Quiet (M:ay):Prop where
 armed:M.armed=false
 off:M.off=false
 left:M.left=0
theorem Quiet.new (r:Nat):Quiet (new r):=⟨rfl,rfl,rfl⟩
theorem Quiet.step {M:ay} (h:Quiet M):M.step=(M,true):=by simp [ay.step,h.armed]
theorem Quiet.link {M:ay} (h:Quiet M) (x:gV):Quiet (M.link x):=⟨h.armed,h.off,h.left⟩
theorem Quiet.gZ {M:ay} (h:Quiet M) (i:Nat) (f:bC):Quiet (M.gZ i f):=⟨h.armed,h.off,h.left⟩
theorem Quiet.create {M:ay} (h:Quiet M) (s:ByteArray):Quiet (M.create s).1:=by
 unfold ay.create
 rw [h.step]
 split;· exact h
 split;· exact h
 split;· exact h
 split;· exact h
 split;· exact h
 exact ⟨h.armed,h.off,h.left⟩
theorem Quiet.append {M:ay} (h:Quiet M) (s:ByteArray) (b:Bs):Quiet (M.append s b).1:=by
 unfold ay.append
 rw [h.step]
 split;· exact h
 split;· exact h
 split;· exact h
 split;· exact h
 exact h.gZ _ _
theorem Quiet.rename {M:ay} (h:Quiet M) (s t:ByteArray):Quiet (M.rename s t).1:=by
 unfold ay.rename
 rw [h.step]
 split;· exact h
 split;· exact h
 split;· exact h
 split;· exact h
 exact h.link _
theorem Quiet.remove {M:ay} (h:Quiet M) (s:ByteArray):Quiet (M.remove s).1:=by
 unfold ay.remove
 rw [h.step]
 split;· exact h
 split;· exact h
 split;· exact h
 exact h.link _
theorem Quiet.sync {M:ay} (h:Quiet M) (s:ByteArray):Quiet (M.sync s).1:=by
 unfold ay.sync
 rw [h.step]
 split;· exact h
 split;· exact h
 split;· exact h
 exact h.gZ _ _
theorem Quiet.dN {M:ay} (h:Quiet M):Quiet M.dN.1:=by
 unfold ay.dN
 rw [h.step]
 split;· exact h
 split;· exact h
 exact ⟨h.armed,h.off,h.left⟩
theorem Quiet.DN {M:ay} (h:Quiet M){s:ByteArray}{i:Nat} (hs:bP M.now s=some i):M.sync s=(M.gZ i (M.file i).sync,0):=by
 unfold ay.sync
 rw [h.step,h.off,hs]
 rfl
theorem BG {M:ay}{i:Nat}{f:bC} (hi:i<M.files.length) (j:Nat):(M.gZ i f).file j=if j=i then f else M.file j:=by
 unfold ay.gZ ay.file
 simp only [adP]
 split
 ·rename_i h;subst h;rw [List.getElem?_set_self hi];rfl
 ·rename_i h;rw [List.getElem?_set_ne (Ne.symm h)]
theorem Quiet.G8 {M:ay} (h:Quiet M):M.dN=({ M with fast:=M.now,waits:=[] },0):=by
 unfold ay.dN
 rw [h.step,abw (by rw [h.off];exact Bool.false_ne_true)]
 simp
theorem Quiet.list {M:ay} (h:Quiet M):M.list=M.now.map (·.1):=by unfold ay.list;rw [h.off];rfl
def pR (M:ay):Prop:=(M.now.map (·.2)).Nodup
theorem Ol {M:ay} (hs:lS M.now) (hd:pR M){s:ByteArray}{i:Nat} (h:bP M.now s=some i) :
  (∀ p∈fK M.now s,p.2≠i)∧∀ g:Nat→Nat,(M.now.map fun p=>g p.2).sum=g i+((fK M.now s).map fun p=>g p.2).sum:=by
 have hp:=LZ hs.keys (jk h)
 constructor
 ·have hd':(M.now.map fun p:ByteArray×Nat=>p.2).Nodup:=hd
  have:=(hp.map (fun p:ByteArray×Nat=>p.2)).nodup_iff.1 hd'
  simp only [ag8,akx]at this
  intro p hp e
  exact this.1 (acK.2 ⟨p,hp,e⟩)
 ·intro g
  have:=(hp.map fun p=>g p.2).sum_nat
  simpa using this
theorem G5 {l:Names}{g h:Nat→Nat} (e:∀ p∈l,g p.2=h p.2):(l.map fun p=>g p.2).sum=(l.map fun p=>h p.2).sum:=by
 rw [akz e]
theorem X5 {M:ay}{K:Nat} (ok:M.Ok K) (hd:pR M){s:ByteArray}{i:Nat} (h:bP M.now s=some i) (f:bC) :
  (M.gZ i f).used+(M.file i).now.length=M.used+f.now.length:=by
 obtain ⟨h1,h2⟩:=Ol ok.fH.lF hd h
 have hi:i<M.files.length:=ok.fH.ids _ (jk h)
 have e1:=h2 fun j=>(M.file j).now.length
 have e2:=h2 fun j=>((M.gZ i f).file j).now.length
 have e3:((fK M.now s).map fun p=>((M.gZ i f).file p.2).now.length).sum=((fK M.now s).map fun p=>(M.file p.2).now.length).sum:=
  G5 (g:=fun j=>((M.gZ i f).file j).now.length) (h:=fun j=>(M.file j).now.length) fun p hp=>by rw [BG hi,abw (h1 p hp)]
 have e4:(M.gZ i f).file i=f:=by rw [BG hi,ac3 rfl]
 simp only [e4,e3]at e2
 show (M.now.map fun p=>((M.gZ i f).file p.2).now.length).sum+_=(M.now.map fun p=>(M.file p.2).now.length).sum+_
 rw [e1,e2]
 omega
theorem G6 (l:Names) (s:ByteArray) (g:Nat→Nat):((fK l s).map fun p=>g p.2).sum≤(l.map fun p=>g p.2).sum:=by
 induction l with
 |nil=>exact acy _
 |cons p l ih=>
  unfold fK at ih ⊢
  rw [List.filter_cons]
  split
  ·simp only [ag8,aln];omega
  ·simp only [ag8,aln];omega
theorem Am (l:Names) (s:ByteArray) (i:Nat) (g:Nat→Nat):((jP l s i).map fun p=>g p.2).sum=g i+((fK l s).map fun p=>g p.2).sum:=by
 have:=((uz l s i).map fun p=>g p.2).sum_nat
 simpa using this
theorem Vg {l:Names}{s:ByteArray}{i:Nat} (h:(l.map (·.2)).Nodup) (hi:∀ p∈l,p.2≠i):((jP l s i).map (·.2)).Nodup:=by
 refine ((uz l s i).map (·.2)).nodup_iff.2 ?_
 simp only [ag8,akx]
 refine ⟨fun hm=>?_,h.sublist (ak4.map _)⟩
 obtain ⟨p,hp,e⟩:=acK.1 hm
 exact hi p (aji.1 hp).1 e
structure Fits (M M':ay):Prop where
 room:M'.room=M.room
 dst:pR M'
 used:M'.used≤M'.room
theorem ahJ (M:ay):M.step.1.room=M.room∧M.step.1.now=M.now∧M.step.1.files=M.files:=⟨M.jv.1,M.jv.2.2.1,M.jv.2.2.2.1⟩
theorem Fits.self {M:ay} (hd:pR M) (hu:M.used≤M.room):Fits M M:=⟨rfl,hd,hu⟩
theorem X4 {M M':ay} (h1:M'.now=M.now) (h2:M'.files=M.files):M'.used=M.used:=by unfold ay.used ay.file;rw [h1,h2]
theorem Fits.alike {M M':ay} (hd:pR M) (hu:M.used≤M.room) (hr:M'.room=M.room) (h1:M'.now=M.now) (h2:M'.files=M.files):Fits M M':=
 ⟨hr,by unfold pR;rw [h1];exact hd,by rw [X4 h1 h2,hr];exact hu⟩
theorem Fits.set {M M':ay}{K:Nat} (ok:M.Ok K) (hd:pR M) (hu:M.used≤M.room) (hr:M'.room=M.room) (h1:M'.now=M.now) (h2:M'.files=M.files){s:ByteArray}{i:Nat} (h:bP M.now s=some i) (f:bC)
  (hf:M.used+f.now.length≤M.room+(M.file i).now.length):Fits M (M'.gZ i f):=by
 have e:(M'.gZ i f).used=(M.gZ i f).used:=X4 (by exact h1) (by show M'.files.set i f=M.files.set i f;rw [h2])
 have:=X5 ok hd h f
 refine ⟨hr,by show (M'.now.map (·.2)).Nodup;rw [h1];exact hd,?_⟩
 rw [e]
 show _≤M'.room
 rw [hr]
 omega
theorem Fits.does {M:ay}{K:Nat} (ok:M.Ok K) (hd:pR M) (hu:M.used≤M.room) (x:Cal) (h8:x.kind≠8) (h9:x.kind≠9) :
  Fits M (M.does x).1∧((M.does x).2.2.1=11→x.kind=1∧M.room<M.ru+x.b.length):=by
 have r:=Fits.self hd hu
 obtain ⟨s1,s2,s3⟩:=ahJ M
 have rs:Fits M M.step.1:=Fits.alike hd hu s1 s2 s3
 refine ay.abq (P:=fun q=>Fits M q.1∧(q.2.2.1=11→x.kind=1∧M.room<M.ru+x.b.length)) ?_ ?_ ?_ ?_ ?_ ?_ ?_ ?_ ?_ ?_ ?_ ?_
 ·intro _
  show Fits M (M.create x.name).1∧((M.create x.name).2=11→_)
  unfold ay.create
  split;· exact ⟨r,by simp⟩
  split;· exact ⟨r,by simp⟩
  rename_i hg
  split;· exact ⟨r,by simp⟩
  rename_i hn
  split;· exact ⟨r,by simp⟩
  split;· exact ⟨rs,by simp⟩
  refine ⟨?_,by simp⟩
  have hnn:bP M.now x.name=none:=by simpa using hn
  have hlt:=ok.fH.ids
  have hne:x.name≠ByteArray.empty:=pI (by simpa using hg)
  have vM:(({ M.step.1 with files:=M.files++[bC.new] }:ay).link ⟨ByteArray.empty,x.name,M.files.length⟩).now=jP M.now x.name M.files.length:=by
   show gV.on _ M.step.1.now=_
   rw [s2]
   unfold gV.on
   simp only [akL,abw hne]
  have hdel:=vW hnn
  refine ⟨s1,?_,?_⟩
  ·unfold pR
   rw [vM]
   exact Vg hd fun p hp e=>by have:=hlt p hp;omega
  ·have:(({ M.step.1 with files:=M.files++[bC.new] }:ay).link ⟨ByteArray.empty,x.name,M.files.length⟩).used=M.used:=by
    show ((ay.now _).map fun p=>(ay.file _ p.2).now.length).sum=_
    rw [vM,Am _ _ _ (fun j=>(ay.file _ j).now.length),hdel]
    have e0:((({ M.step.1 with files:=M.files++[bC.new] }:ay).link ⟨ByteArray.empty,x.name,M.files.length⟩).file M.files.length).now.length=0:=by
     simp [ay.file,ay.link,bC.new]
    rw [e0,aen]
    refine G5 (g:=fun j=>(ay.file _ j).now.length) (h:=fun j=>(M.file j).now.length) fun p hp=>?_
    have:=hlt p hp
    simp only [ay.file,ay.link,adP]
    rw [adV this]
   rw [this]
   show _≤M.step.1.room
   rw [s1];exact hu
 ·intro hk1
  show Fits M (M.append x.name x.b).1∧((M.append x.name x.b).2=11→_)
  unfold ay.append
  split;· exact ⟨r,by simp⟩
  rename_i hoff
  split;· exact ⟨r,by simp⟩
  rename_i i hi
  split
  ·rename_i hfull
   refine ⟨r,fun _=>⟨hk1,?_⟩⟩
   have:M.ru=M.used:=by unfold ay.ru;rw [abw hoff]
   rw [this];omega
  rename_i hfull
  split;· exact ⟨rs,by simp⟩
  refine ⟨Fits.set ok hd hu s1 s2 s3 hi _ ?_,by simp⟩
  simp only [bC.do,iJ.on,ajK,akO,aal]
  omega
 ·intro _
  show Fits M (M.truncate x.name x.n).1∧((M.truncate x.name x.n).2=11→_)
  unfold ay.truncate
  split;· exact ⟨r,by simp⟩
  split;· exact ⟨r,by simp⟩
  rename_i i hi
  split;· exact ⟨r,by simp⟩
  split;· exact ⟨rs,by simp⟩
  refine ⟨Fits.set ok hd hu s1 s2 s3 hi _ ?_,by simp⟩
  simp only [bC.do,iJ.on,akL,acJ]
  omega
 ·intro _
  show Fits M (M.rename x.name x.to).1∧((M.rename x.name x.to).2=11→_)
  unfold ay.rename
  split;· exact ⟨r,by simp⟩
  split;· exact ⟨r,by simp⟩
  rename_i i hi
  split;· exact ⟨r,by simp⟩
  rename_i hg
  split;· exact ⟨rs,by simp⟩
  refine ⟨?_,by simp⟩
  have hne:x.to≠ByteArray.empty:=pI (by simpa using hg)
  have hs:x.name≠ByteArray.empty:=ok.fH.ne _ (jk hi)
  obtain ⟨h1,h2⟩:=Ol ok.fH.lF hd hi
  have vM:(M.step.1.link ⟨x.name,x.to,i⟩).now=jP (fK M.now x.name) x.to i:=by
   show gV.on _ M.step.1.now=_
   rw [s2]
   unfold gV.on
   simp only [abw hs,abw hne]
  refine ⟨s1,?_,?_⟩
  ·unfold pR
   rw [vM]
   exact Vg (hd.sublist (ak4.map _)) h1
  ·have e1:=h2 fun j=>(M.file j).now.length
   have e2:=G6 (fK M.now x.name) x.to fun j=>(M.file j).now.length
   have:(M.step.1.link ⟨x.name,x.to,i⟩).used=((jP (fK M.now x.name) x.to i).map fun p=>(M.file p.2).now.length).sum:=by
    show ((ay.now _).map fun p=>(ay.file _ p.2).now.length).sum=_
    rw [vM]
    unfold ay.file ay.link
    simp only [s3]
   rw [this,Am _ _ _ (fun j=>(M.file j).now.length)]
   show _≤M.step.1.room
   rw [s1]
   unfold ay.used at hu
   omega
 ·intro _
  show Fits M (M.remove x.name).1∧((M.remove x.name).2=11→_)
  unfold ay.remove
  split;· exact ⟨r,by simp⟩
  split;· exact ⟨r,by simp⟩
  rename_i i hi
  split;· exact ⟨rs,by simp⟩
  refine ⟨?_,by simp⟩
  have hs:x.name≠ByteArray.empty:=ok.fH.ne _ (jk hi)
  have vM:(M.step.1.link ⟨x.name,ByteArray.empty,0⟩).now=fK M.now x.name:=by
   show gV.on ⟨x.name,ByteArray.empty,0⟩ M.step.1.now=_
   rw [s2]
   unfold gV.on
   simp only [abw hs,akL]
  refine ⟨s1,?_,?_⟩
  ·unfold pR
   rw [vM]
   exact hd.sublist (ak4.map _)
  ·have e2:=G6 M.now x.name fun j=>(M.file j).now.length
   have:(M.step.1.link ⟨x.name,ByteArray.empty,0⟩).used=((fK M.now x.name).map fun p=>(M.file p.2).now.length).sum:=by
    show ((ay.now _).map fun p=>(ay.file _ p.2).now.length).sum=_
    rw [vM]
    unfold ay.file ay.link
    simp only [s3]
   rw [this]
   show _≤M.step.1.room
   rw [s1]
   unfold ay.used at hu
   omega
 ·intro _
  show Fits M (M.sync x.name).1∧((M.sync x.name).2=11→_)
  unfold ay.sync
  split;· exact ⟨r,by simp⟩
  split;· exact ⟨r,by simp⟩
  rename_i i hi
  split;· exact ⟨rs,by simp⟩
  refine ⟨Fits.set ok hd hu s1 s2 s3 hi _ ?_,by simp⟩
  simp only [bC.sync]
  omega
 ·intro _
  show Fits M M.dN.1∧(M.dN.2=11→_)
  unfold ay.dN
  split;· exact ⟨r,by simp⟩
  split;· exact ⟨rs,by simp⟩
  exact ⟨Fits.alike hd hu s1 s2 s3,by simp⟩
 ·intro _
  show Fits M (M.arm x.n).1∧((M.arm x.n).2=11→_)
  unfold ay.arm
  split;· exact ⟨r,by simp⟩
  split;· exact ⟨r,by simp⟩
  exact ⟨Fits.alike hd hu rfl rfl rfl,by simp⟩
 ·exact fun h=>absurd h h8
 ·exact fun h=>absurd h h9
 ·intro _
  refine ⟨?_,fun h=>by simp at h⟩
  show Fits M (M.lY x.name x.n (yD x.m)).1
  unfold ay.lY
  split;· exact r
  rename_i i hi
  split;· exact r
  refine Fits.set ok hd hu rfl rfl rfl hi _ ?_
  rw [((ok.file i).lY _ _).2,OC]
  omega
 ·intro _
  refine ⟨r,fun h=>?_⟩
  exfalso
  have h':(M.read x.name x.n x.m).2=11:=h
  unfold ay.read at h'
  revert h'
  split
  ·simp
  split
  ·simp
  simp only
  split
  ·simp
  split
  ·simp
  ·simp
def ay.Gs (m:ay) (s t:ByteArray) (gone:Bool):ay×Int:=
 if m.off then (m,12)
 else match bP m.now s with
 |none=>(m,9)
 |some i=>
  if gone=false∧good t=false then (m,7)
  else if m.step.2=false then (m.step.1,12)
  else (m.step.1.link ⟨s,if gone then ByteArray.empty else t,i⟩,0)
def ay.aga (D:ay) (l:List Int) (i:Nat) (p:ByteArray×Nat):bC:=(D.file p.2).crash (num l (2 * i+1)) (num l (2 * i+2))
def ay.afR (D:ay) (l:List Int):ay:=
 let ns:=D.lC (EJ (num l 0) D.waits.length)
 { D with fast:=ns.mapIdx fun i p=>(p.1,i),now:=ns.mapIdx fun i p=>(p.1,i),waits:=[],files:=ns.mapIdx (D.aga l),off:=false,armed:=false,left:=0 }
def ay.told (D:ay) (x:Cal):ay×(Bs×Int×Bool):=
 if x.kind=0 then ((D.create x.name).1,[],(D.create x.name).2,false)
 else if x.kind=1 then ((D.append x.name x.b).1,[],(D.append x.name x.b).2,false)
 else if x.kind=2 then ((D.truncate x.name x.n).1,[],(D.truncate x.name x.n).2,false)
 else if x.kind=3 then ((D.Gs x.name x.to false).1,[],(D.Gs x.name x.to false).2,false)
 else if x.kind=4 then ((D.Gs x.name ByteArray.empty true).1,[],(D.Gs x.name ByteArray.empty true).2,false)
 else if x.kind=5 then ((D.sync x.name).1,[],(D.sync x.name).2,false)
 else if x.kind=6 then (D.dN.1,[],D.dN.2,false)
 else if x.kind=7 then ((D.arm x.n).1,[],(D.arm x.n).2,false)
 else if x.kind=8 then (D.afR x.l,[],0,false)
 else if x.kind=9 then ((D.Ah x.n).1,[],(D.Ah x.n).2,false)
 else if x.kind=10 then ((D.lY x.name x.n (yD x.m)).1,[],0,(D.lY x.name x.n (yD x.m)).2)
 else (D,(D.read x.name x.n x.m).1,(D.read x.name x.n x.m).2,false)
def ren (φ:Nat→Nat) (l:Names):Names:=l.map fun p=>(p.1,φ p.2)
structure Side (φ:Nat→Nat) (L:Nat→Prop) (M D:ay):Prop where
 room:D.room=M.room
 armed:D.armed=M.armed
 left:D.left=M.left
 off:D.off=M.off
 wl:D.waits.length=M.waits.length
 now:D.now=ren φ M.now
 names:∀ k,k≤M.waits.length→D.lC k=ren φ (M.lC k)
 live:∀ k,k≤M.waits.length→∀ p∈M.lC k,L p.2
 once:∀ k,k≤M.waits.length→((M.lC k).map (·.2)).Nodup
 inj:∀ i j,L i→L j→φ i=φ j→i=j
 file:∀ i,L i→D.file (φ i)=M.file i
 lt:∀ i,L i→φ i<D.files.length
 ml:∀ i,L i→i<M.files.length
section
variable {φ:Nat→Nat}{L:Nat→Prop}{M D:ay}{K:Nat}
end
section
variable {φ:Nat→Nat}{L:Nat→Prop}{M D:ay}{K:Nat}
def Both (r q:ay×Int):Prop:=r.2=q.2∧∃ φ L,Side φ L r.1 q.1
end
def bC.Small (f:bC):Prop:=∀ c∈f.waits,c.b.length≤16777216
def ay.Small (m:ay):Prop:=∀ f∈m.files,f.Small
end Go.ay
namespace Go.Proofs.YtiglchkhikciiaaGreatDoor
open Go Go.Sl Go.ay Go.MapKept Go.RowKit
def jL (xs:List Value) (i:Nat) (vs:List Value):List Value:=xs.take i++(vs++xs.drop (i+vs.length))
theorem wG (A B vs:List Value) (i:Nat):jL (A++B) (A.length+i) vs=A++jL B i vs:=by
 unfold jL
 rw [List.take_length_add_append,akU,List.drop_length_add_append,adR]
theorem VO {xs vs:List Value}{i:Nat} (h:i+vs.length≤xs.length):(jL xs i vs).length=xs.length:=by
 unfold jL
 simp only [aal,acJ,adU];omega
section
variable {P:Program}{w0 w:World}{L L':List aG}{b o:Nat}{ops:Array Oper}{rest:List Oper}{a:Act}{Q:Exit→Act→World→Prop}{dst:Option Tmp}{t ty T sz n c:Nat}{pos:String}{after:Array Edge}{x y:Operand}{v:Value}{xs vs:List Value}{K:Act→World→Prop}{E:Prop}
theorem VY {cs:Array Value}{i m:Nat} (hx:cs.toList.take m=xs) (hm:m≤cs.size) (hi:i+vs.length≤m):(dM cs i vs).toList.take m=jL xs i vs:=by
 subst hx
 rw [jU _ _ _ oQ]
 have hl:(cs.toList.take i++vs).length=i+vs.length:=by rw [aal,acJ,adu];omega
 unfold jL
 rw [List.take_append,hl,aeb oQ,List.take_take,alh oQ,List.drop_take,adR]
theorem aiO (i:Nat) (hs:Sat w0 w L) (hx:a.eval x = .pointer (some ⟨b,i,none⟩)) (hy:a.eval y=v) (hv:v.cells.toList=vs) (u:ng (aC T sz (.slice (some ⟨b,0,none⟩) n c) xs) (aC T sz (.slice (some ⟨b,0,none⟩) n c) (jL xs i vs)) L L')
  (hi:i+vs.length≤xs.length) (hty:(P.info? ty).map (·.size)=some vs.length) (h1:vs.all (·.oneCell')=true)
  (hK:∀ w',Sat w0 w' L'→wpList P ops Q rest (a.put dst undef) w'):wpList P ops Q (⟨dst,.store ty x y,t,pos,after,none⟩::rest) a w:=by
 have hvs:v.cells.size=vs.length:=by rw [← hv,adu]
 obtain ⟨R',h2,h3⟩:=u
 have h:=hs.perm h2
 rcases Sat.jQ h with ⟨he,_⟩|⟨g',n',cap',cs,he,k1,k2,k3,k4,k5,k6⟩
 ·cases he
 ·cases he
  have hlen:xs.length≤cs.size:=by rw [← k5,acJ,adu];omega
  have hm:n * sz≤cs.size:=adr (ajT _ k2) k3
  refine DY rfl ty x y rfl i v hx hy (by rw [hvs];omega) (by rw [hvs];exact hty) (by rw [← Array.all_toList,hv];exact h1) k6 fun w' hS=>hK w' (Sat.perm ?_ h3.symm)
  refine Sat.kC hS (by rw [VO hi];exact k1) k2 (by rw [jM];exact k3) k4 ?_
  rw [hv]
  exact VY k5 hm (by rw [← k1];exact hi)
theorem xW (i:Nat) (hs:Sat w0 w L) (hx:a.eval x = .pointer (some ⟨b,i,none⟩)) (hy:a.eval y=v) (hv:v.cells.toList=vs) (u:ng (aC T sz (.slice (some ⟨b,0,none⟩) n c) xs) (aC T sz (.slice (some ⟨b,0,none⟩) n c) (jL xs i vs)) L L')
  (hi:i+vs.length≤xs.length) (hty:(P.info? ty).map (·.size)=some vs.length) (h1:vs.all (·.oneCell')=true)
  (hK:∀ w',Sat w0 w' L'→K (a.put dst undef) w') :
  if Region.wanted ⟨dst,.store ty x y,t,pos,after,none⟩ (yielded ops a.tmps)=true then Oper.wp P ⟨dst,.store ty x y,t,pos,after,none⟩ a w K Q else E:=by
 have hvs:v.cells.size=vs.length:=by rw [← hv,adu]
 obtain ⟨R',h2,h3⟩:=u
 have h:=hs.perm h2
 rcases Sat.jQ h with ⟨he,_⟩|⟨g',n',cap',cs,he,k1,k2,k3,k4,k5,k6⟩
 ·cases he
 ·cases he
  have hlen:xs.length≤cs.size:=by rw [← k5,acJ,adu];omega
  have hm:n * sz≤cs.size:=adr (ajT _ k2) k3
  refine kP k6 hx hy (cs':=dM cs i vs) (by rw [hv]) bZ (by rw [hvs];omega) (by rw [hvs];exact hty) (by rw [hv];exact h1) fun w' hS=>hK w' (Sat.perm ?_ h3.symm)
  refine Sat.kC hS (by rw [VO hi];exact k1) k2 (by rw [jM];exact k3) k4 ?_
  exact VY k5 hm (by rw [← k1];exact hi)
end
section
variable {α:Type}{f:α→List Value}{k:Nat}
theorem iE:∀ {l:List α},(∀ x∈l,(f x).length=k)→(l.flatMap f).length=k * l.length
 |[],_=>rfl
 |x::l,h=>by rw [ai7,aal,h x (.head _),iE fun y hy=>h y (.tail _ hy),aja,Nat.mul_succ];omega
theorem Gy:∀ {l:List α}{i:Nat}{x:α}{j:Nat}{v:Value},(∀ x∈l,(f x).length=k)→l[i]?=some x→(f x)[j]?=some v→(l.flatMap f)[i * k+j]?=some v
 |[],_,_,_,_,_,h,_=>by cases h
 |y::l,0,x,j,v,hk,h,hj=>by
  obtain rfl:y=x:=by simpa using h
  rw [ai7,Nat.zero_mul,aen,adV (abl.1 hj).1];exact hj
 |y::l,i+1,x,j,v,hk,h,hj=>by
  have h0:=hk y (.head _)
  rw [ai7,Nat.succ_mul,adQ oQ,h0,show i * k+k+j - k=i * k+j by omega]
  exact Gy (fun z hz=>hk z (.tail _ hz)) (by simpa using h) hj
theorem Ac:∀ {l:List α}{i:Nat}{x:α},(∀ x∈l,(f x).length=k)→(f x).length=k→i<l.length→(l.set i x).flatMap f=jL (l.flatMap f) (i * k) (f x)
 |[],_,_,_,_,h=>by simp at h
 |y::l,0,x,hk,hx,h=>by
  have h0:=hk y (.head _)
  rw [List.set_cons_zero,ai7,ai7]
  unfold jL
  rw [Nat.zero_mul,ajD,ajd,aen,hx,← h0,List.drop_left]
 |y::l,i+1,x,hk,hx,h=>by
  have h0:=hk y (.head _)
  rw [List.set_cons_succ,ai7,ai7,Ac (fun z hz=>hk z (.tail _ hz)) hx (by simpa using h),Nat.succ_mul,alm (i * k) k,← h0,wG]
theorem GH (n:Nat) (x:α):(List.replicate n x).flatMap f=(List.replicate n (f x)).flatten:=by
 induction n with
 |zero=>rfl
 |succ n ih=>rw [List.replicate_succ,ai7,ih,List.replicate_succ,ale]
end
section
variable {w0 w:World}{F R:List aG}{α:Type}{f:α→List Value}{k:Nat}{T:TypeId}{v:Value}
theorem iC {l:List α}{i:Nat}{x:α} (hk:∀ x∈l,(f x).length=k) (h:bg k v (l.flatMap f) w) (hi:l[i]?=some x) (h0:0<k) :
  ∃ bk off c,v = .slice (some ⟨bk,off,none⟩) l.length c∧∀ j y,(f x)[j]?=some y→w.cell? ⟨bk,off+i * k+j,none⟩=some y:=by
 obtain ⟨a,n,c,rfl,hl,hx⟩:=id h
 rw [iE hk]at hl
 have hfx:=hk x (abA hi)
 obtain rfl:n=l.length:=by
  rw [ajW]at hl
  exact (Nat.eq_of_mul_eq_mul_right h0 hl).symm
 obtain ⟨y0,hy0⟩:∃ y,(f x)[0]?=some y:=⟨_,aak oQ⟩
 have h1:=Gy hk hi hy0
 obtain ⟨bk,off,rfl,hc⟩:=nU h h1
 exact ⟨bk,off,c,rfl,fun j y hj=>by rw [akU];exact hc _ _ (Gy hk hi hj)⟩
theorem iD {l:List α} (hk:∀ x∈l,(f x).length=k) (h:bg k v (l.flatMap f) w) (h0:0<k):∃ a c,v = .slice a l.length c:=by
 obtain ⟨a,n,c,rfl,hl,hx⟩:=id h
 rw [iE hk,ajW]at hl
 exact ⟨a,c,by rw [Nat.eq_of_mul_eq_mul_right h0 hl]⟩
end
theorem JF (x j:Nat) (hx:x<9223372036854775808) (hj:j<63):bits .and .i64 (x:Int) ((2^j - 1:Nat):Int)=((x%2^j:Nat):Int):=by
 have h2:2^j≤2^62:=akv aN oQ
 have h3:(2:Nat)^62=4611686018427387904:=by decide
 have h4:0<2^j:=Nat.two_pow_pos j
 have hm:(BitVec.ofInt 64 ((2^j - 1:Nat):Int)).toNat=2^j - 1:=by
  rw [BitVec.toNat_ofInt]
  have:((2^64:Nat):Int)=18446744073709551616:=by decide
  rw [this]
  omega
 have hn:(BitVec.ofInt 64 (x:Int)).toNat=x:=by
  rw [BitVec.toNat_ofInt]
  have:((2^64:Nat):Int)=18446744073709551616:=by decide
  rw [this]
  omega
 show IntKind.i64.wrap ((BitVec.ofInt 64 (x:Int) &&& BitVec.ofInt 64 ((2^j - 1:Nat):Int)).toNat:Nat)=_
 rw [BitVec.toNat_and,hm,hn,Nat.and_two_pow_sub_one_eq_mod,ajt]
 have:=akC x h4
 omega
theorem MI (l:Bs) (c:UInt8) (k:Nat) (hl:l.length=k) (hk:k<4):bits .or .u32 ((aj.num l:Nat):Int) ((c.toNat:Int) * ((256^k:Nat):Int))=((aj.num (l++[c]):Nat):Int):=by
 subst hl
 have h1:=aj.vX l
 have h2:=c.toNat_lt
 have h3:256^l.length≤256^3:=akv aN oQ
 have h4:c.toNat * 256^l.length≤255 * 256^3:=akI oQ h3
 have h5:(256:Nat)^3=16777216:=by decide
 have e:(c.toNat:Int) * ((256^l.length:Nat):Int)=((c.toNat * 256^l.length:Nat):Int):=by rw [alz]
 rw [e,u32_or_nat _ _ oQ oQ,aj.MB]
 congr 1
 have hp:(256:Nat)^l.length=2^(8 * l.length):=by rw [Nat.pow_mul]
 rw [hp]at h1 ⊢
 have:=Nat.two_pow_add_eq_or_of_lt h1 c.toNat
 rw [Nat.or_comm,ajW c.toNat,← this,alm]
section
variable {w0 w:World}{F R:List aG}
set_option maxRecDepth 20000 in
theorem TV (k:Bs) (hk:k.length=32) (j:Nat) (hj:j<40) (h:Sat w0 w F) :
  Calls Tryz.prog 168 #[.agg (aA k).toArray,.int .i64 (2^j:Nat)] w (aO fun v w'=>v = .int .i64 (Tab.home k (2^j):Nat)∧Sat w0 w' F):=by
 obtain ⟨c0,c1,c2,c3,t,rfl⟩:∃ c0 c1 c2 c3 t,k=c0::c1::c2::c3::t:=by
  match k,hk with
  |c0::c1::c2::c3::t,_=>exact ⟨c0,c1,c2,c3,t,rfl⟩
 have Hh:=uQ (show Tab.home (c0::c1::c2::c3::t) (2^j)=aj.num [c0,c1,c2,c3]%2^j from rfl)
 have hB:=h.alloc (.cells (aA (c0::c1::c2::c3::t)).toArray 31)
 have e0:(w.alloc (.cells (aA (c0::c1::c2::c3::t)).toArray 31)).cell? ⟨w.heap.size,0,none⟩=some (.int .u8 c0.toNat):=hB.cellAt 0 _ rfl
 have e1:(w.alloc (.cells (aA (c0::c1::c2::c3::t)).toArray 31)).cell? ⟨w.heap.size,1,none⟩=some (.int .u8 c1.toNat):=hB.cellAt 1 _ rfl
 have e2:(w.alloc (.cells (aA (c0::c1::c2::c3::t)).toArray 31)).cell? ⟨w.heap.size,2,none⟩=some (.int .u8 c2.toNat):=hB.cellAt 2 _ rfl
 have e3:(w.alloc (.cells (aA (c0::c1::c2::c3::t)).toArray 31)).cell? ⟨w.heap.size,3,none⟩=some (.int .u8 c3.toNat):=hB.cellAt 3 _ rfl
 have b0:=c0.toNat_lt;have b1:=c1.toNat_lt;have b2:=c2.toNat_lt;have b3:=c3.toNat_lt
 have q1:bits .or .u32 (c0.toNat:Int) ((c1.toNat:Int) * 256)=((aj.num [c0,c1]:Nat):Int):=by
  have:=MI [c0] c1 1 rfl aN
  simpa [aj.num] using this
 have q2:bits .or .u32 ((aj.num [c0,c1]:Nat):Int) ((c2.toNat:Int) * 65536)=((aj.num [c0,c1,c2]:Nat):Int):=MI [c0,c1] c2 2 rfl aN
 have q3:bits .or .u32 ((aj.num [c0,c1,c2]:Nat):Int) ((c3.toNat:Int) * 16777216)=((aj.num [c0,c1,c2,c3]:Nat):Int):=MI [c0,c1,c2] c3 3 rfl aN
 have hn:=aj.vX [c0,c1,c2,c3]
 rw [show [c0,c1,c2,c3].length=4 from rfl,show (256:Nat)^4=4294967296 by decide]at hn
 have hp:(2:Nat)^j≤2^40:=akv aN oQ
 have hp1:(2:Nat)^40=1099511627776:=by decide
 have hp0:0<2^j:=Nat.two_pow_pos j
 have q4:=JF (aj.num [c0,c1,c2,c3]) j oQ oQ
 generalize aj.num [c0,c1,c2,c3]=N at *
 generalize hC:2^j=C at *
 have hw1:IntKind.i64.wrap ((C:Int) - 1)=((C - 1:Nat):Int):=by rw [ajt];omega
 have hw2:IntKind.i64.wrap (N:Int)=(N:Int):=acI _ oQ
 have hm2:N%C<C:=akC _ hp0
 clear h hk hC hp hp1
 go_enter Tryz.func168,Tryz.ntmps168
 go_wp2_with fail
 go_ret
 refine ⟨_,rfl,?_,hB.drop⟩
 rw [Hh.out,Int.natCast_emod];rfl
end
section
variable {w0 w:World}{L L' R F:List aG}{b o:Nat}{ops:Array Oper}{rest:List Oper}{a:Act}{Q:Exit→Act→World→Prop}
variable {dst:Option Tmp}{t T ty:TypeId}{pos:String}{after:Array Edge}{x y:Operand}{cs:Array Value}{v:Value}{P:Program}
theorem gU (ks:List Value) (hx:a.eval x = .pointer (some ⟨b,o,none⟩)) (hc:∀ j v,ks[j]?=some v→w.cell? ⟨b,o+j,none⟩=some v)
  {d:TypeDesc} (hu:P.underlying ty=some d) (hd:d.isRow=true) (hi:(P.info? ty).map (·.size)=some ks.length)
  (h:wpList P ops Q rest (a.put dst (.agg ks.toArray)) w):wpList P ops Q (⟨dst,.load ty x,t,pos,after,none⟩::rest) a w:=
 wpList_load_mid rfl ty x rfl b o hx ks d hc hu hd hi h
theorem fE (ks:Array Value) (hs:Sat w0 w L) (hx:a.eval x = .pointer (some ⟨b,0,none⟩)) (hy:a.eval y = .agg ks) (hsz:ks.size=cs.size) (u:ng (pt b (.cells cs T (0,0))) (pt b (.cells ks T (0,0))) L L')
  (hi:(P.info? ty).map (·.size)=some ks.size) (h1:ks.toList.all (·.oneCell')=true)
  (hK:∀ w',Sat w0 w' L'→wpList P ops Q rest (a.put dst undef) w'):wpList P ops Q (⟨dst,.store ty x y,t,pos,after,none⟩::rest) a w:=
 eY hs hx hy (nT (by
  show (dM cs 0 ks.toList).toList=_
  rw [jU _ _ _ (by rw [adu];omega),ajD,ajd,aen,aiz (by rw [adu,adu];omega),afo])) u (by show 0+ks.size≤cs.size;omega) hi h1 hK
end
abbrev Gh (q:Seg.aU):Value:= .agg #[.int .i64 q.seg,.int .i64 q.at_,.int .i64 q.size]
theorem DZ:jy Tryz.prog 116=some (.agg #[.int .i64 0,.int .i64 0,.int .i64 0]):=by kernel_rfl
structure Eo (l:List (Int×Int)) (n cap:Nat) (cs:Array Value):Prop where
 len:l.length=n+1
 le:n+1≤cap
 size:cap * 2≤cs.size
 max:cap≤maxLen
 take:cs.toList.take ((n+1) * 2)=dR l
theorem ahk (l:List (Int×Int)) (s:Int×Int) (z:Int):(dR (l++[s])).set (l.length * 2+1) (.int .i64 z)=dR (l++[(s.1,z)]):=by
 rw [yN,yN]
 rw [List.set_append_right _ _ (by rw [jW];omega),jW,show l.length * 2+1 - 2 * l.length=1 by omega]
 rfl
theorem aho {α:Type} (l:List α) (k i:Nat) (x:α) (h:i<k):(l.set i x).take k=(l.take k).set i x:=by
 rw [List.take_set]
section
variable {w0 w:World}{F R:List aG}{v bv dv x lv:Value}{q p m K:Nat}{L:Seg.Log}{M:ay}{s:Int×Int}
theorem NR (hl:L.l.getLast?=some s) (h:Sat w0 w (zi p m L lv++F)) :
  ∃ bk n cap cs,lv = .slice (some ⟨bk,0,none⟩) (n+1) cap∧Eo L.l n cap cs∧cs[n * 2]?=some (.int .i64 s.1)∧cs[n * 2+1]?=some (.int .i64 s.2) ∧
   Sat w0 w (lD p m L (.slice (some ⟨bk,0,none⟩) (n+1) cap)::pt bk (.cells cs 153 (0,0))::F):=by
 rw [ajS]at hl
 have hlt:=(abl.1 hl).1
 obtain ⟨n,hn⟩:∃ n,L.l.length=n+1:=⟨L.l.length - 1,by omega⟩
 rw [hn,akW]at hl
 obtain ⟨h1,h2⟩:=Ag _ _ _ hl
 have hS:Sat w0 w (aC 153 2 lv (dR L.l)::lD p m L lv::F):=h.aZ
 rcases hS.jQ with ⟨rfl,hx,_⟩|⟨b,n',cap,cs,rfl,hll,hn',hc,hcm,htk,hp⟩
 ·rw [hx]at h1;simp at h1
 ·rw [jW,hn]at hll
  obtain rfl:n'=n+1:=by omega
  refine ⟨b,n,cap,cs,rfl,⟨hn,hn',hc,hcm,htk⟩,?_,?_,hp.aZ⟩
  ·rw [ajW];exact jS htk h1
  ·rw [ajW];exact jS htk h2
theorem NS {bk n cap:Nat}{cs:Array Value} (hb:Eo L.l n cap cs) (h:Sat w0 w (pt bk (.cells cs 153 (0,0))::R)) :
  Sat w0 w (aC 153 2 (.slice (some ⟨bk,0,none⟩) (n+1) cap) (dR L.l)::R):=
 Sat.kC h (by rw [jW,hb.len];omega) hb.le hb.size hb.max hb.take
theorem seg_close {bk n cap:Nat}{cs:Array Value} (hl:L.l.getLast?=some s) (hb:Eo L.l n cap cs) (z:Int)
  (h:Sat w0 w (pt bk (.cells (dM cs (n * 2+1) [.int .i64 z]) 153 (0,0))::R)) :
  Sat w0 w (aC 153 2 (.slice (some ⟨bk,0,none⟩) (n+1) cap) (dR (L.l.dropLast++[(s.1,z)]))::R):=by
 have e:=Seg.Di hl
 have hlen:=Seg.LD hl
 have hn:=hb.len
 refine Sat.kC h ?_ hb.le ?_ hb.max ?_
 ·rw [jW,aal,adX];omega
 ·rw [jM];exact hb.size
 ·simp only [dM,Array.toList_setIfInBounds]
  rw [aho _ _ _ _ oQ,hb.take,e,List.dropLast_append_cons,show n=L.l.dropLast.length by omega]
  simp only [List.dropLast_singleton,afo]
  exact ahk _ _ _
set_option maxRecDepth 20000 in
theorem acF (hl:L.l.getLast?=some s) (hs:0≤s.2∧s.2≤33554432) (hM:M.Ok K) (jK:K≤1099511627776) (hlen:L.l.length≤1048576) (b:Bs) (hbl:b.length≤1073741824) (hr:Ro w0 F (bg 1 bv (aA b)))
  (h:Sat w0 w (aI p m L::aH m M::F)) :
  Calls Tryz.prog 109 #[ptr p,bv] w (aO fun v w'=>v = .tuple #[Gh (L.grow M b).2.1,errno (L.grow M b).2.2] ∧
   Sat w0 w' (aI p m (L.grow M b).1.1::aH m (L.grow M b).1.2::F)):=by
 obtain ⟨lv,hR⟩:=aI.open h
 clear h
 obtain ⟨bk,n,cap,cs,rfl,hb,c0,c1,hS⟩:=NR hl hR
 clear hR
 obtain ⟨ba,bn,bc,rfl,hbn⟩:=DK hr (A:=emp) (Sat.emp.2 (hS.sel 3 [] rfl rfl))
 subst hbn
 have Hg:=uQ (show L.grow M b=if (M.append (Seg.name s.1) b).2=0 then (({ L with l:=L.l.dropLast++[(s.1,s.2+(b.length:Int))] },(M.append (Seg.name s.1) b).1),⟨s.1,s.2,b.length⟩,0)
  else ((L,(M.append (Seg.name s.1) b).1),Seg.aU.zero,(M.append (Seg.name s.1) b).2) by unfold Seg.Log.grow;rw [hl])
 have hn:=hb.len
 have Hb:=uQ hb;have Hr:=uQ hr;have Hl:=uQ hl;have Hs:=uQ hs;have uT:=uQ c0;have IQ:=uQ c1;have oh:=uQ hbl
 have hn0:(n:Int)<(n:Int)+1:=oQ
 have hwn:IntKind.i64.wrap (n:Int)=(n:Int):=by rw [ajt];omega
 have hwz:IntKind.i64.wrap (s.2+(b.length:Int))=s.2+(b.length:Int):=by rw [ajt];omega
 have ZB:=uQ hwz
 clear hn hb hr hl hs c0 c1 hbl hlen hwz
 go_enter Tryz.func109,Tryz.ntmps109
 go_wp2_with (refine dU DZ aQ rfl ?_;intro q w1 hS1)
 refine dH [10,11] (fun w'=>w'.cell? ⟨p,2,none⟩=some (.slice (some ⟨bk,0,none⟩) (n+1) cap)) au ?_
 have hG:w1.drew.cell? ⟨p,2,none⟩=some (.slice (some ⟨bk,0,none⟩) (n+1) cap):=hS1.drew.cellP aY 2 rfl
 refine rP 0 ?_ (y:=aX)
 refine rP 1 ?_ (y:=dZ)
 refine rP 2 ?_ (y:=cO)
 refine rt 3 (h:=?_)
 refine rP 4 ?_ (y:=aX)
 refine rP 5 ?_ (y:=dZ)
 refine rP 6 ?_ (y:=cO)
 refine rt 7 (h:=?_)
 refine rP 8 ?_ (y:=(nZ ak dh))
 refine rP 9 ?_ (y:=jm)
 refine rP 10 ?_ (y:=gX)
 refine rP 11 ?_ (y:=fJ)
 refine dD au ?_
 clear hG
 have hS2:=hS1.drew
 generalize w1.drew=w2 at *
 clear hS1 hS
 go_wp2_with fail
 refine dH [10,11] (fun w'=>w'.cell? ⟨p,0,none⟩=some (ptr m)∧w'.cell? ⟨bk,n * 2,none⟩=some (.int .i64 s.1)) au ?_
 have hG:w2.drew.cell? ⟨p,0,none⟩=some (ptr m)∧w2.drew.cell? ⟨bk,n * 2,none⟩=some (.int .i64 s.1):=⟨hS2.drew.cellP aY 0 rfl,hS2.drew.cellP aY _ uT.out⟩
 refine rP 0 ?_ (y:=aX)
 refine rP 1 ?_ (y:=dZ)
 refine rP 2 ?_ (y:=cO)
 refine rt 3 (h:=?_)
 refine rP 4 ?_ (y:=aX)
 refine rP 5 ?_ (y:=dZ)
 refine rP 6 ?_ (y:=cO)
 refine rt 7 (h:=?_)
 refine rP 9 ?_ (y:=aX)
 refine bV 8 ak au (fun K hK=>?_)
 clear hG
 (refine pF au ak ?_)
 refine (wP s.1 hS2.drew).mono ?_
 rintro e w3 ⟨v,rfl,rfl,hS3⟩
 refine hK _ _ (.inr (.inl ⟨hS3.cellP aY 0 rfl,hS3.cellP aY _ uT.out⟩)) ?_
 clear hK K
 refine bV 10 ak au (fun K hK=>?_)
 (refine vI au ak ak ak ?_)
 refine (Et hM jK (Sat.pk aQ) _ b (by first|assumption|exact Ro.op (Ro.bJ _ _)|exact Ro.os aQ)).mono ?_
 rintro e w4 ⟨v,rfl,rfl,hS4⟩
 refine hK _ _ (.inl rfl) ?_
 clear hK K
 refine rP 11 ?_ (y:=fJ)
 refine dD au ?_
 clear hS3 hS2 Hr
 generalize M.append (Seg.name s.1) b=r at *
 obtain ⟨M2,ee⟩:=r
 by_cases he:ee=0
 ·subst he
  have hfin:=uQ (Hg.out.trans (ac3 rfl))
  have e1:w4.cell? ⟨bk,n * 2+1,none⟩=some (.int .i64 s.2):=hS4.cellP aY _ IQ.out
  have hfit:=Hb.out.size;have hle:=Hb.out.le
  have hst:=uQ (show n * 2+1+(Value.int .i64 (s.2+(b.length:Int))).cells.size≤cs.size by show n * 2+1+1≤cs.size;omega)
  have hwz:=ZB.out
  clear hfit hle
  go_wp2_with (refine aiQ ah ?_)
  refine ⟨eY (b:=bk) (o:=n * 2+1) (v:= .int .i64 (s.2+(b.length:Int))) aQ ah ah rfl eF hst.out au ah ?_⟩
  intro w5 hS5
  have e0:w5.cell? ⟨bk,n * 2,none⟩=some (.int .i64 s.1):=hS5.cellP aY _ (by
   show (cs.setIfInBounds (n * 2+1) _)[n * 2]?=_
   rw [ak6 oQ];exact uT.out)
  clear e1 hst hwz
  go_wp2_with ((with_reducible refine bY ⟨?_⟩);refine eY aQ ah ak pQ eF bF au ah ?_;intro wS hS)
  refine ⟨rfl,_,lN rfl aQ ah aY Tryz.underlying116 rfl au,_,rfl,?_,?_⟩
  ·rw [hfin.out];rfl
  ·rw [hfin.out]
   have h6:=seg_close Hl.out Hb.out _ (Sat.pk hS)
   exact aI.shut2 (lv:= .slice (some ⟨bk,0,none⟩) (n+1) cap) (Sat.sb h6)
 ·have heb:(ee==0)=false:=aj1 he
  have hfin:=uQ (Hg.out.trans (abw he))
  clear he
  go_wp2_with ((with_reducible refine bY ⟨?_⟩);refine eY aQ ah ak pQ eF bF au ah ?_;intro wS hS)
  refine ⟨rfl,_,lN rfl aQ ah aY Tryz.underlying116 rfl au,_,rfl,?_,?_⟩
  ·rw [hfin.out];rfl
  ·rw [hfin.out]
   have h6:=NS Hb.out (Sat.pk hS)
   exact aI.shut2 (lv:= .slice (some ⟨bk,0,none⟩) (n+1) cap) (Sat.sb h6)
end
end Go.Proofs.YtiglchkhikciiaaGreatDoor
namespace Go.Seg
open Go.ay
theorem Log.Xz {L:Log} (M:ay) (h:L.on=false):L.shut M=((L,M),0):=by
 unfold Log.shut
 split
 ·rfl
 ·rw [abw (by rw [h];decide)]
theorem Log.Ok.last {L:Log} (h:L.Ok) (hon:L.on=true):∃ s,L.l.getLast?=some s:=by
 cases hl:L.l.getLast? with
 |none=>exact absurd (akP.1 hl) (h.on hon)
 |some s=>exact ⟨s,rfl⟩
theorem Log.XA {L:Log} (M:ay){s:Int×Int} (hl:L.l.getLast?=some s) (h:L.on=true) :
  L.shut M=if (M.sync (name s.1)).2=0 then (({ L with on:=false },(M.sync (name s.1)).1),0) else ((L,(M.sync (name s.1)).1),(M.sync (name s.1)).2):=by
 unfold Log.shut
 rw [hl]
 simp only [h,akL]
end Go.Seg
namespace Go.Proofs.YtiglchkhikciiaaGreatDoor
open Go Go.Sl Go.ay Go.MapKept Go.RowKit
section
variable {w0 w:World}{F R:List aG}{v bv dv x lv:Value}{q p m K:Nat}{L:Seg.Log}{M:ay}{s:Int×Int}
set_option maxRecDepth 20000 in
theorem aht (hL:L.Ok) (hM:M.Ok K) (h:Sat w0 w (aI p m L::aH m M::F)) :
  Calls Tryz.prog 165 #[ptr p] w (aO fun v w'=>v=errno (L.shut M).2∧Sat w0 w' (aI p m (L.shut M).1.1::aH m (L.shut M).1.2::F)):=by
 cases hon:L.on
 ·obtain ⟨lv,hR⟩:=aI.open h
  refine (ahp hon hR).mono ?_
  rintro e w1 ⟨v,rfl,rfl,rfl⟩
  rw [Seg.Log.Xz M hon]
  exact ⟨_,rfl,rfl,h⟩
 ·obtain ⟨s,hl⟩:=hL.last hon
  obtain ⟨lv,hR⟩:=aI.open h
  clear h
  have hlen:=hL.len
  obtain ⟨bk,n,cap,cs,rfl,hb,c0,c1,hS⟩:=NR hl hR
  clear hR c1
  have hn:=hb.len
  have Hg:=uQ (Seg.Log.XA M hl hon)
  have Hb:=uQ hb;have Hl:=uQ hl;have uT:=uQ c0
  have hn0:(n:Int)<(n:Int)+1:=oQ
  have hwn:IntKind.i64.wrap (n:Int)=(n:Int):=by rw [ajt];omega
  have e3:w.cell? ⟨p,3,none⟩=some (.bool true):=hS.cellP aY 3 (by rw [← hon];rfl)
  clear hn hb hl c0 hlen hon
  go_enter Tryz.func165,Tryz.ntmps165
  go_wp2_with fail
  refine dH [18,19] (fun w'=>w'.cell? ⟨p,0,none⟩=some (ptr m)∧w'.cell? ⟨p,2,none⟩=some (.slice (some ⟨bk,0,none⟩) (n+1) cap)∧w'.cell? ⟨bk,n * 2,none⟩=some (.int .i64 s.1)) au ?_
  have hG:w.drew.cell? ⟨p,0,none⟩=some (ptr m)∧w.drew.cell? ⟨p,2,none⟩=some (.slice (some ⟨bk,0,none⟩) (n+1) cap)∧w.drew.cell? ⟨bk,n * 2,none⟩=some (.int .i64 s.1):=⟨hS.drew.cellP aY 0 rfl,hS.drew.cellP aY 2 rfl,hS.drew.cellP aY _ uT.out⟩
  refine rP 0 ?_ (y:=aX)
  refine rP 1 ?_ (y:=dZ)
  refine rP 2 ?_ (y:=cO)
  refine rt 3 (h:=?_)
  refine rP 4 ?_ (y:=aX)
  refine rP 5 ?_ (y:=dZ)
  refine rP 6 ?_ (y:=cO)
  refine rt 7 (h:=?_)
  refine rP 8 ?_ (y:=aX)
  refine rP 9 ?_ (y:=dZ)
  refine rP 10 ?_ (y:=cO)
  refine rt 11 (h:=?_)
  refine rP 12 ?_ (y:=(nZ ak dh))
  refine rP 13 ?_ (y:=jm)
  refine rP 14 ?_ (y:=gX)
  refine rP 15 ?_ (y:=cO)
  refine rt 16 (h:=?_)
  clear hG e3
  refine bV 17 ak au (fun K hK=>?_)
  (refine pF au ak ?_)
  refine (wP s.1 hS.drew).mono ?_
  rintro e w3 ⟨v,rfl,rfl,hS3⟩
  refine hK _ _ (.inr (.inl ⟨hS3.cellP aY 0 rfl,hS3.cellP aY 2 rfl,hS3.cellP aY _ uT.out⟩)) ?_
  clear hK K
  refine bV 18 ak au (fun K hK=>?_)
  (refine gy au ak ak ?_)
  refine (H7 hM (Sat.pk aQ) _).mono ?_
  rintro e w4 ⟨v,rfl,rfl,hS4⟩
  refine hK _ _ (.inl rfl) ?_
  clear hK K
  refine rP 19 ?_ (y:=fJ)
  refine dD au ?_
  clear hS3 hS
  generalize M.sync (Seg.name s.1)=r at *
  obtain ⟨M2,ee⟩:=r
  by_cases he:ee=0
  ·subst he
   have hfin:=uQ (Hg.out.trans (ac3 rfl))
   go_wp2_with ((with_reducible refine bY ⟨?_⟩);refine eY aQ ah ak pQ eF bF au ah ?_;intro wS hS)
   go_ret
   refine ⟨errno 0,rfl,by rw [hfin.out],?_⟩
   rw [hfin.out]
   have h6:=NS Hb.out (Sat.pk hS)
   exact aI.shut2 (lv:= .slice (some ⟨bk,0,none⟩) (n+1) cap) (Sat.sb h6)
  ·have heb:(ee==0)=false:=aj1 he
   have hfin:=uQ (Hg.out.trans (abw he))
   clear he
   go_wp2_with ((with_reducible refine bY ⟨?_⟩);refine eY aQ ah ak pQ eF bF au ah ?_;intro wS hS)
   go_ret
   refine ⟨errno ee,rfl,by rw [hfin.out],?_⟩
   rw [hfin.out]
   have h6:=NS Hb.out (Sat.pk hS4)
   exact aI.shut2 (lv:= .slice (some ⟨bk,0,none⟩) (n+1) cap) (Sat.sb h6)
end
end Go.Proofs.YtiglchkhikciiaaGreatDoor
namespace Go.Seg
open Go.ay
theorem Log.NV {L:Log}{M:ay}{K:Nat} (h:M.Ok K):(L.shut M).1.2.Ok (K+1):=by
 unfold Log.shut
 split;· exact h.mono (aj8 K)
 split
 ·split <;> exact h.sync _
 ·exact h.mono (aj8 K)
theorem Log.aax (L:Log) (M:ay) (b:Bs):L.begin M b=if (L.shut M).2=0 then (L.shut M).1.1.je (L.shut M).1.2 b else ((L.shut M).1,aU.zero,(L.shut M).2):=rfl
theorem FP (n:Int):(name n).size≤9223372036854775807:=by
 unfold name
 split
 ·decide
 ·show (lead++gK n.toNat 8).toArray.size≤_
  rw [aaI,aal,vH];decide
end Go.Seg
namespace Go.Proofs.YtiglchkhikciiaaGreatDoor
open Go Go.Sl Go.ay Go.MapKept Go.RowKit
section
variable {w0 w:World}{F R:List aG}{v bv dv x lv:Value}{q p m K:Nat}{L:Seg.Log}{M:ay}{s:Int×Int}
theorem aeo (hL:L.Ok) (h:Sat w0 w (aI p m L::F)) :
  Calls Tryz.prog 166 #[ptr p] w (aO fun v w'=>v = .int .i64 L.next∧Sat w0 w' (aI p m L::F)):=by
 obtain ⟨lv,hR⟩:=aI.open h
 refine (ahA hL.len hL.nums hR).mono ?_
 rintro e w1 ⟨v,rfl,rfl,hS⟩
 exact ⟨_,rfl,rfl,aI.shut2 hS⟩
theorem ahl (l:List (Int×Int)) (n z:Int):dR l++[.int .i64 n,.int .i64 z]=dR (l++[(n,z)]):=by rw [yN];rfl
set_option maxRecDepth 20000 in
theorem Qi (hL:L.Ok) (hM:M.Ok K) (jK:K+4≤1099511627776) (b:Bs) (hb0:b≠[]) (hbl:b.length≤16777216) (hr:Ro w0 F (bg 1 bv (aA b)))
  (h:Sat w0 w (aI p m L::aH m M::F)) :
  Calls Tryz.prog 110 #[ptr p,bv] w (aO fun v w'=>v = .tuple #[Gh (L.begin M b).2.1,errno (L.begin M b).2.2] ∧
   Sat w0 w' (aI p m (L.begin M b).1.1::aH m (L.begin M b).1.2::F)):=by
 obtain ⟨ba,bn,bc,rfl,hbn⟩:=DK hr (A:=emp) (Sat.emp.2 (h.sel 2 [] rfl rfl))
 subst hbn
 obtain ⟨i,hi,hz0,hz1,hz2⟩:=rX
 have Hg:=uQ (Seg.Log.aax L M b)
 have HM:=uQ (Seg.Log.NV (L:=L) hM)
 have HL:=uQ (hL.shut M)
 have Hr:=uQ hr;have Hb0:=uQ hb0;have oh:=uQ hbl
 clear hr hb0 hbl
 go_enter Tryz.func110,Tryz.ntmps110
 go_wp2_with (refine dU DZ aQ rfl ?_;intro q w1 hS1)
 refine (aht hL hM (Sat.sb aQ)).mono ?_
 rintro e w2 ⟨v,rfl,rfl,hS2⟩
 clear hS1 h hL hM
 generalize L.shut M=S at *
 obtain ⟨⟨L1,M1⟩,e1⟩:=S
 by_cases he:e1=0
 rotate_left
 ·have heb:(e1==0)=false:=aj1 he
  have hfin:=uQ (Hg.out.trans (abw he))
  clear he
  go_wp2_with ((with_reducible refine bY ⟨?_⟩);refine eY aQ ah ak pQ eF bF au ah ?_;intro wS hS)
  refine ⟨rfl,_,lN rfl aQ ah aY Tryz.underlying116 rfl au,_,rfl,?_,?_⟩
  ·rw [hfin.out];rfl
  ·rw [hfin.out];exact Sat.sb hS
 subst he
 have H1:=uQ (Hg.out.trans (ac3 rfl))
 clear Hg
 go_wp2_with fail
 refine (aeo HL.out (Sat.pk aQ)).mono ?_
 rintro e w3 ⟨v,rfl,rfl,hS3⟩
 clear hS2
 have hs1:=uQ HL.out.next
 have hfr:=uQ HL.out.fresh
 have hln:=uQ HL.out.len
 unfold Seg.Log.je at H1
 have Ej:=uQ (Seg.FP L1.next)
 by_cases hn:1048576≤L1.next
 ·have hfin:=uQ (H1.out.trans (ac3 hn))
  generalize L1.next=n at *
  go_wp2_with ((with_reducible refine bY ⟨?_⟩);refine eY aQ ah ak pQ eF bF au ah ?_;intro wS hS)
  refine ⟨rfl,_,lN rfl aQ ah aY Tryz.underlying116 rfl au,_,rfl,?_,?_⟩
  ·rw [hfin.out];rfl
  ·rw [hfin.out];exact Sat.sb hS
 have H2:=uQ (H1.out.trans (abw hn))
 clear H1
 have Hn:=uQ hn
 have hnd:¬ 1048576≤L1.next:=hn
 clear hn
 have hnm:=wP L1.next hS3
 generalize hnn:L1.next=n at *
 have Ji:=uQ hnn
 clear hnn
 go_wp2_with fail
 refine hnm.mono ?_
 rintro e w4 ⟨v,rfl,rfl,hS4⟩
 clear hnm hS3 hnd
 generalize Seg.name n=nm at *
 obtain ⟨lv,hR⟩:=aI.mP (Sat.pk aQ)
 have e0:w4.cell? ⟨p,0,none⟩=some (ptr m):=hR.cellP aY 0 rfl
 go_wp2_with fail
 refine (J7 HM.out oQ (Sat.pk aQ) nm Ej.out).mono ?_
 rintro e w5 ⟨v,rfl,rfl,hS5⟩
 have uP:=uQ (HM.out.create nm)
 clear hS4 hR e0
 generalize M1.create nm=C at *
 obtain ⟨M2,e2⟩:=C
 by_cases he:e2=0
 rotate_left
 ·have heb:(e2==0)=false:=aj1 he
  have hfin:=uQ (H2.out.trans (ac3 he))
  clear he
  go_wp2_with ((with_reducible refine bY ⟨?_⟩);refine eY aQ ah ak pQ eF bF au ah ?_;intro wS hS)
  refine ⟨rfl,_,lN rfl aQ ah aY Tryz.underlying116 rfl au,_,rfl,?_,?_⟩
  ·rw [hfin.out];rfl
  ·rw [hfin.out];exact aI.shut2 (lv:=lv) (Sat.sb hS)
 subst he
 have H3:=uQ (H2.out.trans (abw (fun h=>h rfl)))
 clear H2
 go_wp2_with fail
 refine dH [9,10] (fun w'=>w'.cell? ⟨p,0,none⟩=some (ptr m)) au ?_
 have hG:w5.drew.cell? ⟨p,0,none⟩=some (ptr m):=hS5.drew.cellP aY 0 rfl
 refine rP 0 ?_ (y:=aX)
 refine rP 1 ?_ (y:=dZ)
 refine rP 2 ?_ (y:=cO)
 refine rt 3 (h:=?_)
 refine rP 4 ?_ (y:=aX)
 refine rP 7 ?_ (y:=aX)
 refine bV 5 ak au (fun K hK=>?_)
 go_simp
 have hB1:=hS5.drew.alloc (.cells #[.int .u8 72,.int .u8 79,.int .u8 65,.int .u8 82,.int .u8 68,.int .u8 83,.int .u8 69,.int .u8 71] 5)
 refine hK _ _ (.inr (.inl (hB1.cellP aY 0 rfl))) ?_
 clear hK K hG hB1
 refine bV 6 ak au (fun K hK=>?_)
 have hcv:(convert 36 36 (.slice (some ⟨w5.heap.size,0,none⟩) 8 8)).run Tryz.prog ((w5.alloc (.cells #[.int .u8 72,.int .u8 79,.int .u8 65,.int .u8 82,.int .u8 68,.int .u8 83,.int .u8 69,.int .u8 71] 5)).drew) = .ok (.slice (some ⟨w5.heap.size,0,none⟩) 8 8) ((w5.alloc (.cells #[.int .u8 72,.int .u8 79,.int .u8 65,.int .u8 82,.int .u8 68,.int .u8 83,.int .u8 69,.int .u8 71] 5 (8,9))).drew):=
  Lib.run_convert_bytes_const (P:=Tryz.prog) w5.drew 36 5 #[.int .u8 72,.int .u8 79,.int .u8 65,.int .u8 82,.int .u8 68,.int .u8 83,.int .u8 69,.int .u8 71] 8 8 Tryz.underlying36 Tryz.underlying5
 have hB:=(hS5.alloc (.cells #[.int .u8 72,.int .u8 79,.int .u8 65,.int .u8 82,.int .u8 68,.int .u8 83,.int .u8 69,.int .u8 71] 5 (8,9))).drew
 go_simp
 refine hK _ _ (.inr (.inl (hB.cellP aY 0 rfl))) ?_
 clear hK K
 have hrd:=Hr.out _ (hB.sb)
 have hold:bg 1 (.slice (some ⟨w5.heap.size,0,none⟩) 8 8) (aA Seg.mag) ((w5.alloc (.cells #[.int .u8 72,.int .u8 79,.int .u8 65,.int .u8 82,.int .u8 68,.int .u8 83,.int .u8 69,.int .u8 71] 5 (8,9))).drew):=by
  refine ⟨_,8,8,rfl,rfl,fun j x hj=>⟨_,rfl,?_⟩⟩
  rw [o9]
  have hjl:j<Seg.mag.length:=by
   have:=(abl.1 hj).1
   rw [aV]at this;exact this
  have hx:=(FN (l:=Seg.mag) hB hjl 0).1
  unfold aA at hj
  rw [aix,aak hjl]at hj
  cases hj
  exact hx
 have hy0:aA b≠[]:=by
  intro h
  apply Hb0.out
  unfold aA at h
  exact List.map_eq_nil_iff.1 h
 have h63:(aA Seg.mag).length+(aA b).length≤maxLen:=by rw [aV,aV];have:=oh.out;unfold maxLen Seg.mag;simp;omega
 have hby:((aA Seg.mag).length+(aA b).length) * i.bytes≤140737488355328:=by rw [aV,aV,hz2];have:=oh.out;unfold Seg.mag;simp;omega
 refine bV 8 ak au (fun K hK=>?_)
 refine ahK (w0:=w0) (xs:=aA Seg.mag) (b:=w5.heap.size) (n:=8) (cap:=8) ah _ _ _ ah _ i _ Tryz.underlying36 hi hz0 hz1 ah rfl (acy _) hold hB.drop ah ah hrd hy0 h63 hby ?_
 intro b4 n4 k4 w6 hS6
 clear hcv hrd hold hy0 h63 hby hB
 have hS6:Sat w0 w6 (bJ (.slice (some ⟨b4,0,none⟩) n4 k4) (Seg.mag++b)::aH m M2::pt q (.cells #[.int .i64 0,.int .i64 0,.int .i64 0] 116)::lD p m L1 lv::aC 153 2 lv (dR L1.l)::F):=by
  have e:aA Seg.mag++aA b=aA (Seg.mag++b):=by unfold aA;rw [aey]
  rw [e]at hS6
  exact Sat.sb hS6
 refine hK _ _ (.inr (.inl (hS6.cellP aY 0 rfl))) ?_
 clear hK K hS5
 refine bV 9 ak au (fun K hK=>?_)
 (refine vI au ak ak ak ?_)
 refine (Et uP.out oQ (Sat.pk aQ) nm (Seg.mag++b) (by first|assumption|exact Ro.op (Ro.bJ _ _)|exact Ro.os aQ)).mono ?_
 rintro e w7 ⟨v,rfl,rfl,hS7⟩
 refine hK _ _ (.inl rfl) ?_
 clear hK K
 refine rP 10 ?_ (y:=fJ)
 refine dD au ?_
 clear hS6
 have YF:=uQ (uP.out.append nm (Seg.mag++b))
 generalize M2.append nm (Seg.mag++b)=D at *
 obtain ⟨M3,e3⟩:=D
 by_cases he:e3=0
 ·subst he
  have hfin:=uQ (H3.out.trans (ac3 rfl))
  have c2:w7.cell? ⟨p,2,none⟩=some lv:=hS7.cellP aY 2 rfl
  have hwl:IntKind.i64.wrap (8+(b.length:Int))=8+(b.length:Int):=by rw [ajt];have:=oh.out;omega
  obtain ⟨ii,hii,hy0,hy1,hy2⟩:=info_parts Us
  have h7:=hS7.alloc (.cells #[.int .i64 n,.int .i64 (8+(b.length:Int))] 153)
  have hoc:∀ u∈(#[.int .i64 n,.int .i64 (8+(b.length:Int))]:Array Value).toList,u.oneCell'=true:=by
   intro u hu
   simp only [aer,ajU,alb]at hu
   rcases hu with rfl|rfl <;> rfl
  have h63:(dR L1.l).length+2≤maxLen:=by rw [jW];have:=hln.out;unfold maxLen;omega
  have hby:((dR L1.l).length+2) * ii.bytes≤140737488355328:=by rw [jW,hy2];have:=hln.out;omega
  have h8:Sat w0 _ (aC 153 2 lv (dR L1.l)::lD p m L1 lv::pt q (.cells #[.int .i64 0,.int .i64 0,.int .i64 0] 116)::aH m M3::F):=h7.sb
  have hwf:IntKind.i64.wrap (L1.fresh+1)=L1.fresh+1:=by rw [ajt];have:=hfr.out;have:=hln.out;omega
  go_wp2_with (first
   |(at_builtin;refine wW (w0:=w0) ah _ _ _ ah _ ii _ Tryz.underlying145 hii hy0 hy1 ah oQ ah ah hoc h8 (yH _ _ _ 2 1 1 ah) h63 hby ?_;intro v2 w8 iR hne;obtain ⟨ab,an,ac,rfl⟩:=hne (by simp);clear h8 h7 hS7 c2 hoc h63 hby hne)
   |((with_reducible refine bD ⟨?_⟩);refine dV aQ ah aY bF ak au ?_)|((with_reducible refine bY ⟨?_⟩);refine eY aQ ah ak pQ eF bF au ah ?_;intro wS hS))
  refine ⟨rfl,_,lN rfl aQ ah aY Tryz.underlying116 rfl au,_,rfl,?_,?_⟩
  ·rw [hfin.out];rfl
  ·rw [hfin.out]
   have e:dR L1.l++[.int .i64 n,.int .i64 (8+(b.length:Int))]=dR (L1.l++[(n,8+(b.length:Int))]):=ahl _ _ _
   rw [e]at hS
   exact aI.shut2 (lv:= .slice (some ⟨ab,0,none⟩) an ac) (Sat.sb hS)
 have H4:=uQ (H3.out.trans (abw he))
 have heb:(e3==0)=false:=aj1 he
 clear he H3
 by_cases he:e3=11
 ·subst he
  have H5:=uQ (H4.out.trans (ac3 rfl))
  have e0:w7.cell? ⟨p,0,none⟩=some (ptr m):=hS7.cellP aY 0 rfl
  go_wp2_with fail
  refine (yJ YF.out oQ (Sat.pk aQ) nm).mono ?_
  rintro e w8 ⟨v,rfl,rfl,iR⟩
  clear hS7 e0
  generalize M3.remove nm=E at *
  obtain ⟨M4,e4⟩:=E
  by_cases he:e4=0
  ·subst he
   go_wp2_with ((with_reducible refine bY ⟨?_⟩);refine eY aQ ah ak pQ eF bF au ah ?_;intro wS hS)
   refine ⟨rfl,_,lN rfl aQ ah aY Tryz.underlying116 rfl au,_,rfl,?_,?_⟩
   ·rw [H5.out];rfl
   ·rw [H5.out];exact aI.shut2 (lv:=lv) (Sat.sb hS)
  ·have heb:(e4==0)=false:=aj1 he
   have H6:=uQ (H5.out.trans (by rw [abw he]))
   clear he
   go_wp2_with ((with_reducible refine bY ⟨?_⟩);refine eY aQ ah ak pQ eF bF au ah ?_;intro wS hS)
   refine ⟨rfl,_,lN rfl aQ ah aY Tryz.underlying116 rfl au,_,rfl,?_,?_⟩
   ·rw [H6.out];rfl
   ·rw [H6.out];exact aI.shut2 (lv:=lv) (Sat.sb hS)
 ·have hfin:=uQ (H4.out.trans (abw he))
  have aju:(e3==11)=false:=aj1 he
  clear he H4
  go_wp2_with ((with_reducible refine bY ⟨?_⟩);refine eY aQ ah ak pQ eF bF au ah ?_;intro wS hS)
  refine ⟨rfl,_,lN rfl aQ ah aY Tryz.underlying116 rfl au,_,rfl,?_,?_⟩
  ·rw [hfin.out];rfl
  ·rw [hfin.out];exact aI.shut2 (lv:=lv) (Sat.sb hS)
end
end Go.Proofs.YtiglchkhikciiaaGreatDoor
namespace Go.Seg
open Go.ay
theorem Q7 (x:aj.aP) (h:(aj.encode x).2=0):(aj.encode x).1≠[]:=by
 unfold aj.encode at *
 split at h
 ·rename_i hc;exact absurd h hc
 ·rename_i hc
  rw [abw hc]
  intro e
  have:=aje List.length e
  simp [aj.iH]at this
theorem Log.Es {L:Log}{M:ay}{x:aj.aP} (h:(aj.encode x).2≠0):L.append M x=((L,M),aU.zero,(aj.encode x).2):=by
 unfold Log.append;rw [ac3 h]
theorem Log.xK {L:Log}{M:ay}{x:aj.aP} (h:(aj.encode x).2=0) (hf:L.fits (aj.encode x).1.length=true):L.append M x=L.grow M (aj.encode x).1:=by
 unfold Log.append;rw [abw (fun hh=>hh h),ac3 hf]
theorem Log.xJ {L:Log}{M:ay}{x:aj.aP} (h:(aj.encode x).2=0) (hf:L.fits (aj.encode x).1.length=false):L.append M x=L.begin M (aj.encode x).1:=by
 unfold Log.append;rw [abw (fun hh=>hh h),abw (by rw [hf];decide)]
theorem Log.ab5 {L:Log} (n:Nat) (h:L.on=false):L.fits n=false:=by unfold Log.fits;rw [h];rfl
theorem Log.ab6 {L:Log}{s:Int×Int} (n:Nat) (h:L.on=true) (hl:L.l.getLast?=some s):L.fits n=decide (s.2+n≤L.limit):=by
 unfold Log.fits;rw [h,hl];rfl
end Go.Seg
namespace Go.Proofs.YtiglchkhikciiaaGreatDoor
open Go Go.Sl Go.ay Go.MapKept Go.RowKit
section
variable {w0 w:World}{F R:List aG}{v bv dv x lv:Value}{q p m K:Nat}{L:Seg.Log}{M:ay}{s:Int×Int}
theorem Xu (hl:L.l.getLast?=some s) (h:Sat w0 w (lD p m L lv::aC 153 2 lv (dR L.l)::F)) :
  ∃ bk n cap cs,lv = .slice (some ⟨bk,0,none⟩) (n+1) cap∧Eo L.l n cap cs∧cs[n * 2]?=some (.int .i64 s.1)∧cs[n * 2+1]?=some (.int .i64 s.2) ∧
   Sat w0 w (lD p m L (.slice (some ⟨bk,0,none⟩) (n+1) cap)::pt bk (.cells cs 153 (0,0))::F):=NR hl h
set_option maxRecDepth 20000 in
theorem Df (e:aj.aP) (hk:e.key.length=32) (da:Option Addr) (dc:Nat) (hd:Ro w0 F (bg 1 (.slice da e.data.length dc) (aA e.data))) (hH:Ro w0 F Half) (qK:e.data.length≤1099511627)
  (hL:L.Ok) (hM:M.Ok K) (jK:K+4≤1099511627776) (h:Sat w0 w (aI p m L::aH m M::F)) :
  Calls Tryz.prog 62 #[ptr p,.agg (dG e (.slice da e.data.length dc))] w (aO fun v w'=>v = .tuple #[Gh (L.append M e).2.1,errno (L.append M e).2.2] ∧
   Sat w0 w' (aI p m (L.append M e).1.1::aH m (L.append M e).1.2::F)):=by
 obtain ⟨lv,hR⟩:=aI.mP h
 clear h
 have hsz:=dW e (.slice da e.data.length dc) hk
 have gq:=uQ hsz
 have Hd:=uQ hd;have HH:=uQ hH;have Hk:=uQ hk;have YD:=uQ qK
 have HL:=uQ hL;have HM:=uQ hM
 have jA:=uQ hL.len
 have xu:=uQ (show (aj.encode e).1.length≤16425 from Seg.encode_len e hk)
 have tC:=uQ (Seg.Q7 e)
 have A0:=uQ (Seg.Log.Es (L:=L) (M:=M) (x:=e))
 have A1:=uQ (Seg.Log.xK (L:=L) (M:=M) (x:=e))
 have A2:=uQ (Seg.Log.xJ (L:=L) (M:=M) (x:=e))
 clear hsz hd hH hk qK hL hM
 go_enter Tryz.func62,Tryz.ntmps62
 go_wp2_with (first
  |((with_reducible refine eG ⟨?_⟩);refine eH aQ ah (cs:=dG e (.slice da e.data.length dc)) rfl ?_;intro q3 w1 hS1)
  |(refine dU DZ aQ rfl ?_;intro q w2 hS2))
 refine (qV (Sat.pk aQ)).mono ?_
 rintro ee w3 ⟨v,rfl,rfl,rfl⟩
 clear hS1 hR
 go_wp2_with ((with_reducible refine bD ⟨?_⟩);refine gI aQ ah aY Tryz.underlying78 ah (by rw [gq.out];kernel_rfl) ?_)
 refine (abB e Hk.out da dc (by first|assumption|exact Ro.op (Ro.bJ _ _)|exact Ro.os aQ) (by first|assumption|exact Ro.op (Ro.bJ _ _)|exact Ro.os aQ) hS2 YD.out).mono ?_
 rintro ee w3 ⟨v,rfl,bv,rfl,⟨ba,bn,bc,rfl⟩,hS3⟩
 clear hS2
 generalize hE:aj.encode e=E at *
 have HE:=uQ hE
 clear hE
 obtain ⟨b,e1⟩:=E
 have D9:Hid (b.length≤16425):=xu
 by_cases he:e1=0
 rotate_left
 ·have heb:(e1==0)=false:=aj1 he
  have hfin:=uQ (A0.out he)
  clear he
  go_wp2_with ((with_reducible refine bY ⟨?_⟩);refine eY aQ ah ak pQ eF bF au ah ?_;intro wS hS)
  refine ⟨rfl,_,lN rfl aQ ah aY Tryz.underlying116 rfl au,_,rfl,?_,?_⟩
  ·rw [hfin.out];rfl
  ·rw [hfin.out];exact aI.shut2 (lv:=lv) (Sat.sb hS)
 subst he
 have hbn:bn=b.length:=by
  obtain ⟨a',n',c',he,hl,_⟩:=Sat.rd hS3
  cases he
  rw [aV,aiw]at hl
  exact hl.symm
 subst hbn
 have Hb0:=uQ (tC.out rfl)
 clear A0 tC
 cases hon:L.on
 ·have hf:=Seg.Log.ab5 b.length hon
  have hfin:=uQ (A2.out rfl hf)
  have c3:w3.cell? ⟨p,3,none⟩=some (.bool false):=hS3.cellP aY 3 (by rw [← hon];rfl)
  clear hf A1 A2 hon
  go_wp2_with fail
  have hS4:=hS3.drew
  have c3':w3.drew.cell? ⟨p,3,none⟩=some (.bool false):=c3
  go_region
  clear c3 c3'
  have hS5:Sat w0 _ (aI p m L::aH m M::_):=aI.shut2 (lv:=lv) (hS4.sb)
  go_wp2_with fail
  refine (Qi HL.out HM.out jK b Hb0.out (by have:=D9.out;omega) (by first|assumption|exact Ro.op (Ro.bJ _ _)|exact Ro.os aQ) hS5).mono ?_
  rintro ee w5 ⟨v,rfl,rfl,hS6⟩
  clear hS4 hS5 hS3
  go_wp2_with ((with_reducible refine bY ⟨?_⟩);refine eY aQ ah ak pQ eF bF au ah ?_;intro wS hS)
  refine ⟨rfl,_,lN rfl aQ ah aY Tryz.underlying116 rfl au,_,rfl,?_,?_⟩
  ·rw [hfin.out];rfl
  ·rw [hfin.out];exact Sat.sb hS
 ·obtain ⟨s,hl⟩:=HL.out.last hon
  obtain ⟨bk,n,cap,cs,rfl,hb,c0,c1,hB⟩:=Xu hl (hS3.sb)
  have hf:=Seg.Log.ab6 b.length hon hl
  have hs:=HL.out.sizes s (akj hl)
  have hlim:=HL.out.limit
  have hn:=hb.len
  have hln:=jA.out
  have hn0:(n:Int)<(n:Int)+1:=oQ
  have hwn:IntKind.i64.wrap (n:Int)=(n:Int):=by rw [ajt];omega
  have hwz:IntKind.i64.wrap (s.2+(b.length:Int))=s.2+(b.length:Int):=by rw [ajt];have:=D9.out;omega
  have g1:w3.drew.cell? ⟨p,1,none⟩=some (.int .i64 L.limit):=hB.drew.cellP aY 1 rfl
  have g2:w3.drew.cell? ⟨p,2,none⟩=some (.slice (some ⟨bk,0,none⟩) (n+1) cap):=hB.drew.cellP aY 2 rfl
  have g3:w3.drew.cell? ⟨p,3,none⟩=some (.bool true):=hB.drew.cellP aY 3 (by rw [← hon];rfl)
  have g4:w3.drew.cell? ⟨bk,n * 2+1,none⟩=some (.int .i64 s.2):=hB.drew.cellP aY _ c1
  have Hl:=uQ hl;have Hb:=uQ hb;have Hs:=uQ hs
  clear hs hlim hn hln hl hb c0 c1 hon hB
  by_cases hfit:s.2+(b.length:Int)≤L.limit
  ·have hfd:decide (s.2+(b.length:Int)≤L.limit)=true:=aiu hfit
   have hfin:=uQ (A1.out rfl (hf.trans hfd))
   clear hf hfd A1 A2
   go_wp2_with fail
   have hS4:=hS3.drew
   go_region
   clear g1 g2 g3 g4
   have hS5:Sat w0 _ (aI p m L::aH m M::_):=aI.shut2 (lv:= .slice (some ⟨bk,0,none⟩) (n+1) cap) (hS4.sb)
   go_wp2_with fail
   refine (acF Hl.out Hs.out HM.out oQ jA.out b (by have:=D9.out;omega) (by first|assumption|exact Ro.op (Ro.bJ _ _)|exact Ro.os aQ) hS5).mono ?_
   rintro ee w5 ⟨v,rfl,rfl,hS6⟩
   clear hS4 hS5 hS3
   go_wp2_with ((with_reducible refine bY ⟨?_⟩);refine eY aQ ah ak pQ eF bF au ah ?_;intro wS hS)
   refine ⟨rfl,_,lN rfl aQ ah aY Tryz.underlying116 rfl au,_,rfl,?_,?_⟩
   ·rw [hfin.out];rfl
   ·rw [hfin.out];exact Sat.sb hS
  ·have hfd:decide (s.2+(b.length:Int)≤L.limit)=false:=aex hfit
   have hfin:=uQ (A2.out rfl (hf.trans hfd))
   clear hf hfd A1 A2
   go_wp2_with fail
   have hS4:=hS3.drew
   go_region
   clear g1 g2 g3 g4
   have hS5:Sat w0 _ (aI p m L::aH m M::_):=aI.shut2 (lv:= .slice (some ⟨bk,0,none⟩) (n+1) cap) (hS4.sb)
   go_wp2_with fail
   refine (Qi HL.out HM.out jK b Hb0.out (by have:=D9.out;omega) (by first|assumption|exact Ro.op (Ro.bJ _ _)|exact Ro.os aQ) hS5).mono ?_
   rintro ee w5 ⟨v,rfl,rfl,hS6⟩
   clear hS4 hS5 hS3
   go_wp2_with ((with_reducible refine bY ⟨?_⟩);refine eY aQ ah ak pQ eF bF au ah ?_;intro wS hS)
   refine ⟨rfl,_,lN rfl aQ ah aY Tryz.underlying116 rfl au,_,rfl,?_,?_⟩
   ·rw [hfin.out];rfl
   ·rw [hfin.out];exact Sat.sb hS
end
end Go.Proofs.YtiglchkhikciiaaGreatDoor
namespace Go.Seg
open Go.ay
theorem Log.acG {L:Log}{M:ay}{K:Nat} (h:M.Ok K) (b:Bs):(L.grow M b).1.2.Ok (K+1):=by
 unfold Log.grow
 split;· exact h.mono (aj8 K)
 split <;> exact h.append _ _
theorem Log.aaw {L:Log}{M:ay}{K:Nat} (h:M.Ok K) (b:Bs):(L.je M b).1.2.Ok (K+3):=by
 have h1:=h.create (name L.next)
 have h2:=h1.append (name L.next) (mag++b)
 have h3:=h2.remove (name L.next)
 unfold Log.je
 split;· exact h.mono oQ
 split;· exact h1.mono oQ
 split;· exact h2.mono oQ
 split;· exact h3
 exact h2.mono oQ
theorem Log.ZY {L:Log}{M:ay}{K:Nat} (h:M.Ok K) (x:aj.aP):(L.append M x).1.2.Ok (K+4):=by
 unfold Log.append
 split;· exact h.mono oQ
 split;· exact (Log.acG h _).mono oQ
 unfold Log.begin
 split
 ·exact Log.aaw (Log.NV h) _
 ·exact (Log.NV h).mono oQ
theorem Log.zq (L:Log) (M:ay):L.commit M=if (L.append M dA).2.2≠0 then ((L.append M dA).1,0,(L.append M dA).2.2)
 else if ((L.append M dA).1.2.sync (name (L.append M dA).2.1.seg)).2≠0 then (((L.append M dA).1.1,((L.append M dA).1.2.sync (name (L.append M dA).2.1.seg)).1),0,((L.append M dA).1.2.sync (name (L.append M dA).2.1.seg)).2)
 else if (((L.append M dA).1.2.sync (name (L.append M dA).2.1.seg)).1.dN).2≠0 then (((L.append M dA).1.1,(((L.append M dA).1.2.sync (name (L.append M dA).2.1.seg)).1.dN).1),0,(((L.append M dA).1.2.sync (name (L.append M dA).2.1.seg)).1.dN).2)
 else (({ (L.append M dA).1.1 with on:=false,fresh:=0 },(((L.append M dA).1.2.sync (name (L.append M dA).2.1.seg)).1.dN).1),(L.append M dA).2.1.seg,0):=rfl
end Go.Seg
namespace Go.Proofs.YtiglchkhikciiaaGreatDoor
open Go Go.Sl Go.ay Go.MapKept Go.RowKit
section
variable {w0 w:World}{F R:List aG}{v bv dv x lv:Value}{q p m K:Nat}{L:Seg.Log}{M:ay}{s:Int×Int}
set_option maxRecDepth 20000 in
theorem UD (hH:Ro w0 F Half) (hL:L.Ok) (hM:M.Ok K) (jK:K+6≤1099511627776) (h:Sat w0 w (aI p m L::aH m M::F)) :
  Calls Tryz.prog 98 #[ptr p] w (aO fun v w'=>v = .tuple #[.int .i64 (L.commit M).2.1,errno (L.commit M).2.2] ∧
   Sat w0 w' (aI p m (L.commit M).1.1::aH m (L.commit M).1.2::F)):=by
 have hap:=Df Seg.dA rfl none 0 (fun w _=>yI 1 0 w) hH aN hL hM oQ h
 have Hg:=uQ (Seg.Log.zq L M)
 have HL:=uQ (hL.append M Seg.dA rfl)
 have HM:=uQ (Seg.Log.ZY (L:=L) hM Seg.dA)
 have HH:=uQ hH
 clear hL hM h hH
 generalize L.append M Seg.dA=A at *
 obtain ⟨⟨L1,M1⟩,pl,e1⟩:=A
 go_enter Tryz.func98,Tryz.ntmps98
 go_wp2_with fail
 refine hap.mono ?_
 rintro e w1 ⟨v,rfl,rfl,hS1⟩
 clear hap
 by_cases he:e1=0
 rotate_left
 ·have heb:(e1==0)=false:=aj1 he
  have hfin:=uQ (Hg.out.trans (ac3 he))
  clear he
  go_wp2_with (first|(refine dU DZ aQ rfl ?_;intro q w2 hS2)|((with_reducible refine bY ⟨?_⟩);refine eY aQ ah ak pQ eF bF au ah ?_;intro wS hS))
  go_ret2
  refine ⟨.tuple #[.int .i64 0,errno e1],rfl,?_,?_⟩
  ·rw [hfin.out]
  ·rw [hfin.out];exact Sat.sb hS
 subst he
 have H1:=uQ (Hg.out.trans (abw (fun h=>h rfl)))
 clear Hg
 go_wp2_with (first|(refine dU DZ aQ rfl ?_;intro q w2 hS2)|((with_reducible refine bY ⟨?_⟩);refine eY aQ ah ak pQ eF bF au ah ?_;intro wS hS))
 have hS1:=hS
 clear hS hS2
 obtain ⟨lv,hR⟩:=aI.mP (Sat.pk aQ)
 clear hS1
 go_wp2_with fail
 refine dH [7,8] (fun w'=>w'.cell? ⟨p,0,none⟩=some (ptr m)∧w'.cell? ⟨q,0,none⟩=some (.int .i64 pl.seg)) au ?_
 have hG:(World.drew _).cell? ⟨p,0,none⟩=some (ptr m)∧(World.drew _).cell? ⟨q,0,none⟩=some (.int .i64 pl.seg):=⟨hR.drew.cellP aY 0 rfl,hR.drew.cellP aY 0 rfl⟩
 refine rP 0 ?_ (y:=aX)
 refine rP 1 ?_ (y:=dZ)
 refine rP 2 ?_ (y:=cO)
 refine rt 3 (h:=?_)
 refine rP 4 ?_ (y:=cO)
 refine rt 5 (h:=?_)
 clear hG
 refine bV 6 ak au (fun K hK=>?_)
 (refine pF au ak ?_)
 refine (wP pl.seg hR.drew).mono ?_
 rintro e w3 ⟨v,rfl,rfl,hS3⟩
 refine hK _ _ (.inr (.inl ⟨hS3.cellP aY 0 rfl,hS3.cellP aY 0 rfl⟩)) ?_
 clear hK K
 refine bV 7 ak au (fun K hK=>?_)
 (refine gy au ak ak ?_)
 refine (H7 HM.out (Sat.pk aQ) _).mono ?_
 rintro e w4 ⟨v,rfl,rfl,hS4⟩
 refine hK _ _ (.inl rfl) ?_
 clear hK K hS3 hR
 refine rP 8 ?_ (y:=fJ)
 refine dD au ?_
 have uP:=uQ (HM.out.sync (Seg.name pl.seg))
 generalize M1.sync (Seg.name pl.seg)=B at *
 obtain ⟨M2,e2⟩:=B
 by_cases he:e2=0
 rotate_left
 ·have heb:(e2==0)=false:=aj1 he
  have hfin:=uQ (H1.out.trans (ac3 he))
  clear he
  go_wp2_with fail
  go_ret2
  refine ⟨.tuple #[.int .i64 0,errno e2],rfl,?_,?_⟩
  ·rw [hfin.out]
  ·rw [hfin.out];exact aI.shut2 (lv:=lv) (Sat.sb hS4)
 subst he
 have H2:=uQ (H1.out.trans (abw (fun h=>h rfl)))
 clear H1
 have e0:w4.cell? ⟨p,0,none⟩=some (ptr m):=hS4.cellP aY 0 rfl
 go_wp2_with fail
 refine (Ob uP.out (Sat.pk aQ)).mono ?_
 rintro e w5 ⟨v,rfl,rfl,hS5⟩
 clear hS4 e0
 generalize M2.dN=C at *
 obtain ⟨M3,e3⟩:=C
 by_cases he:e3=0
 rotate_left
 ·have heb:(e3==0)=false:=aj1 he
  have hfin:=uQ (H2.out.trans (ac3 he))
  clear he
  go_wp2_with fail
  go_ret2
  refine ⟨.tuple #[.int .i64 0,errno e3],rfl,?_,?_⟩
  ·rw [hfin.out]
  ·rw [hfin.out];exact aI.shut2 (lv:=lv) (Sat.sb hS5)
 subst he
 have hfin:=uQ (H2.out.trans (abw (fun h=>h rfl)))
 clear H2
 go_wp2_with (first|((with_reducible refine bD ⟨?_⟩);refine dV aQ ah aY bF ak au ?_)|((with_reducible refine bY ⟨?_⟩);refine eY aQ ah ak pQ eF bF au ah ?_;intro wS hS))
 go_ret2
 refine ⟨.tuple #[.int .i64 pl.seg,errno 0],rfl,?_,?_⟩
 ·rw [hfin.out]
 ·rw [hfin.out];exact aI.shut2 (lv:=lv) (Sat.sb hS)
end
end Go.Proofs.YtiglchkhikciiaaGreatDoor
namespace Go.Seg
def idx (l:List (Int×Int)) (n:Int):Int:=match l.findIdx? (fun s=>s.1==n) with
 |some i=>i
 |none=> -1
theorem ab2 (L:Log) (n:Int):L.find n=idx L.l n:=rfl
theorem adw {l:List (Int×Int)}{n:Int}{i:Nat}{s:Int×Int} (hs:l[i]?=some s) (hn:s.1=n) (hp:∀ (j:Nat) (t:Int×Int),j<i→l[j]?=some t→t.1≠n):idx l n=i:=by
 unfold idx
 have:l.findIdx? (fun s=>s.1==n)=some i:=by
  rw [List.findIdx?_eq_some_iff_getElem]
  obtain ⟨h1,h2⟩:=abl.1 hs
  refine ⟨h1,by rw [h2];simpa using hn,fun j hj=>?_⟩
  have:=hp j _ hj (aak oQ)
  simpa using this
 rw [this]
theorem adx {l:List (Int×Int)}{n:Int} (hp:∀ (j:Nat) (t:Int×Int),j<l.length→l[j]?=some t→t.1≠n):idx l n = -1:=by
 unfold idx
 have:l.findIdx? (fun s=>s.1==n)=none:=by
  rw [List.findIdx?_eq_none_iff]
  intro t ht
  obtain ⟨j,hj,rfl⟩:=akp ht
  have:=hp j _ hj (aak hj)
  simpa using this
 rw [this]
end Go.Seg
namespace Go.Proofs.YtiglchkhikciiaaGreatDoor
open Go Go.Sl Go.ay Go.MapKept Go.RowKit
section
variable {w0 w:World}{F R:List aG}{v bv dv x lv:Value}{q p m K:Nat}{L:Seg.Log}{M:ay}{s:Int×Int}
theorem ab1 (s:Int×Int) (n:Int) (h:Sat w0 w F) (hq:Ro w0 F fun w=>w.cell? ⟨q,0,none⟩=some (.int .i64 n)) :
  Calls Tryz.prog 126 #[.agg #[.int .i64 s.1,.int .i64 s.2],ptr q] w (aO fun v w'=>v = .bool (s.1==n)∧Sat w0 w' F):=by
 go_enter Tryz.func126,Tryz.ntmps126
 go_wp2_with (first|(((with_reducible refine eG ⟨?_⟩);refine eH aQ ak ak ?_;intro bB wB hB);have c0:wB.cell? ⟨q,0,none⟩=some (.int .i64 n):=hq _ hB.drop)|((with_reducible refine bD ⟨?_⟩);refine dV aQ ah aY bF ak au ?_))
 go_ret
 exact ⟨_,rfl,rfl,hB.drop⟩
theorem ady (l:List (Int×Int)) (n:Int) (hln:l.length≤1048576) (h:Sat w0 w (aC 153 2 lv (dR l)::F)) (hq:Ro w0 F fun w=>w.cell? ⟨q,0,none⟩=some (.int .i64 n)) :
  Calls Tryz.prog 125 #[lv,.func (.func 126) #[] #[ptr q]] w (aO fun v w'=>v = .int .i64 (Seg.idx l n)∧Sat w0 w' (aC 153 2 lv (dR l)::F)):=by
 rcases h.jQ with ⟨rfl,hx,hF⟩|⟨b,n',cap,cs,rfl,hll,hn',hc,hcm,htk,hp⟩
 ·have hl:l=[]:=by
   cases l with
   |nil=>rfl
   |cons a l=>simp [dR]at hx
  subst hl
  go_enter Tryz.func125,Tryz.ntmps125
  go_wp2_with fail
  go_loopg [8] 0 (fun g iq wr=>iq = .int .i64 0∧wr=w)
  case atStart=>exact ⟨rfl,rfl⟩
  case round=>
   obtain ⟨rfl,rfl⟩:=hrel
   go_wp2
   go_ret
   exact ⟨_,rfl,rfl,h⟩
 ·rw [jW]at hll
  obtain rfl:n'=l.length:=by omega
  have hcl:∀ (i:Nat) (s:Int×Int),l[i]?=some s→cs[i * 2]?=some (.int .i64 s.1)∧cs[i * 2+1]?=some (.int .i64 s.2):=by
   intro i s hs
   obtain ⟨h1,h2⟩:=Ag _ _ _ hs
   rw [ajW i 2]
   exact ⟨jS htk h1,jS htk h2⟩
  have iF:=uQ hcl
  have Ea:=uQ (show ∀ wr,Sat w0 wr (pt b (.cells cs 153 (0,0))::F)→Sat w0 wr (aC 153 2 (.slice (some ⟨b,0,none⟩) l.length cap) (dR l)::F) from fun wr hS=>Sat.kC hS (by rw [jW];omega) hn' hc hcm htk)
  have Hq:=uQ hq
  clear hcl hn' hc hcm htk h hq hll
  go_enter Tryz.func125,Tryz.ntmps125
  go_wp2_with fail
  go_loopg [8] l.length (fun g iq wr=>∃ i:Nat,g=l.length - i∧i≤l.length∧iq = .int .i64 i∧Sat w0 wr (pt b (.cells cs 153 (0,0))::F)∧Hid (∀ (j:Nat) (t:Int×Int),j<i→l[j]?=some t→t.1≠n))
  case atStart=>exact ⟨0,rfl,afm _,rfl,hp,uQ fun j t hj=>absurd hj (Nat.not_lt_zero j)⟩
  case round=>
   obtain ⟨i,rfl,hi,rfl,hS,Hp⟩:=hrel
   clear hp
   by_cases hlt:i<l.length
   ·obtain ⟨s,hs⟩:∃ s,l[i]?=some s:=⟨_,aak hlt⟩
    obtain ⟨d0,d1⟩:=iF.out i s hs
    have Hs:=uQ hs;have IU:=uQ d0;have Hd1:=uQ d1;have bT:=uQ hlt
    have hic:(i:Int)<(l.length:Int):=oQ
    have hwi:=vU (i:=i)
    clear hs d0 d1 hlt
    have hfn:=ab1 (q:=q) s n hS (Ro.os Hq.out)
    go_wp2_with ((with_reducible refine bD ⟨?_⟩);refine Au (b:=b) (o:=i * 2) [.int .i64 s.1,.int .i64 s.2] aQ ah aY (fun j v hj=>by
     rcases j with _|_|j
     ·cases hj;exact IU.out
     ·cases hj;exact Hd1.out
     ·simp at hj) Tryz.underlying153 rfl au ?_)
    refine hfn.mono ?_
    rintro e w2 ⟨v,rfl,rfl,hS2⟩
    clear hfn hS
    by_cases hsn:s.1=n
    ·have hsb:(s.1==n)=true:=by simpa using hsn
     have bH:=uQ (Seg.adw Hs.out hsn Hp.out)
     clear hsn
     go_wp2
     go_ret
     exact ⟨.int .i64 i,rfl,by rw [bH.out],Ea.out _ hS2⟩
    ·have hsb:(s.1==n)=false:=by simpa using hsn
     have Jk:=uQ (show ∀ (j:Nat) (t:Int×Int),j<i+1→l[j]?=some t→t.1≠n by
      intro j t hj ht
      by_cases hji:j<i
      ·exact Hp.out j t hji ht
      ·obtain rfl:j=i:=by omega
       rw [Hs.out]at ht;cases ht;exact hsn)
     clear hsn Hp
     go_wp2
     go_roundg (l.length - (i+1))
     case measure=>have:=bT.out;omega
     case rel=>exact ⟨i+1,rfl,aiy bT.out,by first|rfl|go_num,hS2,Jk⟩
   ·obtain rfl:i=l.length:=by omega
    have hic:¬ (l.length:Int)<(l.length:Int):=oQ
    have bH:=uQ (Seg.adx Hp.out)
    clear hi hlt Hp
    go_wp2
    go_ret
    exact ⟨.int .i64 (-1),rfl,by rw [bH.out],Ea.out _ hS⟩
theorem Dj (hL:L.Ok) (n:Int) (h:Sat w0 w (aI p m L::F)) :
  Calls Tryz.prog 75 #[ptr p,.int .i64 n] w (aO fun v w'=>v = .int .i64 (L.find n)∧Sat w0 w' (aI p m L::F)):=by
 obtain ⟨lv,hR⟩:=aI.mP h
 clear h
 have jA:=uQ hL.len
 rw [Seg.ab2]
 clear hL
 go_enter Tryz.func75,Tryz.ntmps75
 go_wp2_with ((with_reducible refine eG ⟨?_⟩);refine eH aQ ak ak ?_;intro bB wB hB)
 refine (qV (Sat.pk aQ)).mono ?_
 rintro e w2 ⟨v,rfl,rfl,rfl⟩
 clear hR
 go_wp2_with ((with_reducible refine bD ⟨?_⟩);refine dV aQ ah aY bF ak au ?_)
 refine (ady (q:=bB) (lv:=lv) L.l n jA.out (Sat.pk aQ) (fun w hw=>hw.cellP aY 0 rfl)).mono ?_
 rintro e w3 ⟨v,rfl,rfl,hS3⟩
 clear hB
 go_wp2
 go_ret
 exact ⟨_,rfl,rfl,aI.shut2 (lv:=lv) (Sat.sb hS3)⟩
theorem aew (hM:M.Ok K) (h:Sat w0 w (aI p m L::aH m M::F)) :
  Calls Tryz.prog 68 #[ptr p] w (aO fun v w'=>v=errno M.dN.2∧Sat w0 w' (aI p m L::aH m M.dN.1::F)):=by
 obtain ⟨lv,hR⟩:=aI.mP h
 clear h
 go_enter Tryz.func68,Tryz.ntmps68
 go_wp2_with fail
 refine (qV (Sat.pk aQ)).mono ?_
 rintro e w2 ⟨v,rfl,rfl,rfl⟩
 go_wp2_with ((with_reducible refine bD ⟨?_⟩);refine dV aQ ah aY bF ak au ?_)
 refine (Ob hM (Sat.pk aQ)).mono ?_
 rintro e w3 ⟨v,rfl,rfl,hS3⟩
 go_wp2
 go_ret
 exact ⟨_,rfl,rfl,aI.shut2 (lv:=lv) (Sat.sb hS3)⟩
theorem EW (n:Int):(L.at n=none∧L.find n = -1)∨∃ i,L.at n=some i∧L.find n=i:=by
 unfold Seg.Log.find
 cases L.at n with
 |none=>exact .inl ⟨rfl,rfl⟩
 |some i=>exact .inr ⟨i,rfl,rfl⟩
theorem aev (hL:L.Ok) (n:Int) (h:Sat w0 w (aI p m L::F)) :
  Calls Tryz.prog 204 #[ptr p,.int .i64 n] w (aO fun v w'=>v = .int .i64 (L.size n)∧Sat w0 w' (aI p m L::F)):=by
 have hf:=Dj hL n h
 have jA:=uQ hL.len
 rcases EW (L:=L) n with ⟨ha,hb⟩|⟨i,ha,hb⟩
 ·have bH:=uQ (show L.size n=0 by unfold Seg.Log.size;rw [ha])
  rw [hb]at hf
  clear ha hb hL h
  go_enter Tryz.func204,Tryz.ntmps204
  go_wp2_with fail
  refine hf.mono ?_
  rintro e w2 ⟨v,rfl,rfl,hS2⟩
  clear hf
  go_wp2
  go_ret
  rw [bH.out]
  exact ⟨_,rfl,rfl,hS2⟩
 ·rw [hb]at hf
  obtain ⟨hlt,s,hs,hsn⟩:=Seg.Log.Ey ha
  have bH:=uQ (show L.size n=s.2 by unfold Seg.Log.size;rw [ha];simp only;rw [adP,hs];rfl)
  have Hs:=uQ hs
  have hi0:(0:Int)≤(i:Int):=oQ
  have hil:(i:Int)<(L.l.length:Int):=oQ
  have hd:decide ((i:Int)<0)=false:=aex oQ
  clear ha hb hL h hs hsn hlt
  go_enter Tryz.func204,Tryz.ntmps204
  go_wp2_with fail
  refine hf.mono ?_
  rintro e w2 ⟨v,rfl,rfl,hS2⟩
  clear hf
  obtain ⟨lv,hR⟩:=aI.mP hS2
  rcases (hR.pk).jQ with ⟨hl,hx,hF⟩|⟨b,n',cap,cs,rfl,hll,hn',hc,hcm,htk,hp⟩
  ·exfalso
   have:=(Ag _ _ _ Hs.out).1
   rw [hx]at this;simp at this
  ·rw [jW]at hll
   obtain rfl:n'=L.l.length:=by omega
   have e2:w2.cell? ⟨b,i * 2+1,none⟩=some (.int .i64 s.2):=by
    have:=jS htk (Ag _ _ _ Hs.out).2
    rw [ajW 2 i]at this
    exact hp.cellP aY _ this
   clear hp htk hc hn' hll hcm
   go_wp2_with ((with_reducible refine bD ⟨?_⟩);refine dV aQ ah aY bF ak au ?_)
   go_ret
   rw [bH.out]
   exact ⟨_,rfl,rfl,hS2⟩
set_option maxRecDepth 20000 in
theorem UC (hL:L.Ok) (hM:M.Ok K) (n:Int) (h:Sat w0 w (aI p m L::aH m M::F)) :
  Calls Tryz.prog 29 #[ptr p,.int .i64 n] w (aO fun v w'=>∃ bv,v = .tuple #[bv,errno (L.bytes M n).2]∧Sat w0 w' (bJ bv (L.bytes M n).1::aI p m L::aH m M::F)):=by
 obtain ⟨lv,hR⟩:=aI.mP h
 have hok:=qV hR
 have hf:=Dj hL n h
 rcases EW (L:=L) n with ⟨ha,hb⟩|⟨i,ha,hb⟩
 ·have bH:=uQ (show L.bytes M n=([],9) by unfold Seg.Log.bytes;rw [ha])
  rw [hb]at hf
  clear ha hb hL h hR
  go_enter Tryz.func29,Tryz.ntmps29
  go_wp2_with fail
  refine hok.mono ?_
  rintro e w2 ⟨v,rfl,rfl,rfl⟩
  clear hok
  go_wp2_with fail
  refine hf.mono ?_
  rintro e w2 ⟨v,rfl,rfl,hS2⟩
  clear hf
  go_wp2
  go_ret2
  rw [bH.out]
  exact ⟨_,rfl,.slice none 0 0,rfl,Sat.fD.2 hS2⟩
 ·rw [hb]at hf
  have bH:=uQ (show L.bytes M n=M.all (Seg.name n) by unfold Seg.Log.bytes;rw [ha])
  have hi0:(0:Int)≤(i:Int):=oQ
  have hd:decide ((i:Int)<0)=false:=aex oQ
  clear ha hb hL h hR lv
  go_enter Tryz.func29,Tryz.ntmps29
  go_wp2_with fail
  refine hok.mono ?_
  rintro e w2 ⟨v,rfl,rfl,rfl⟩
  clear hok
  go_wp2_with fail
  refine hf.mono ?_
  rintro e w2 ⟨v,rfl,rfl,hS2⟩
  clear hf
  obtain ⟨lv,hR⟩:=aI.mP hS2
  clear hS2
  go_wp2_with fail
  refine dH [6,7,8,9,10] (fun w'=>w'.cell? ⟨p,0,none⟩=some (ptr m)) au ?_
  have hG:w2.drew.cell? ⟨p,0,none⟩=some (ptr m):=hR.drew.cellP aY 0 rfl
  refine rP 0 ?_ (y:=aX)
  refine rP 1 ?_ (y:=dZ)
  refine rP 2 ?_ (y:=cO)
  refine rt 3 (h:=?_)
  refine rP 4 ?_ (y:=aX)
  clear hG
  refine bV 5 ak au (fun K hK=>?_)
  (refine pF au ak ?_)
  refine (wP n hR.drew).mono ?_
  rintro e w3 ⟨v,rfl,rfl,hS3⟩
  refine hK _ _ (.inr (.inl (hS3.cellP aY 0 rfl))) ?_
  clear hK K hR
  refine bV 6 ak au (fun K hK=>?_)
  (refine gy au ak ak ?_)
  refine (JE hM (Sat.pk aQ) _).mono ?_
  rintro e w4 ⟨v,rfl,bv,rfl,hS4⟩
  refine hK _ _ (.inl rfl) ?_
  clear hK K hS3
  refine rP 7 ?_ (y:=(jw ak dh))
  refine rP 8 ?_ (y:=(jw ak dh))
  refine rP 9 ?_ (y:=fJ)
  refine rP 10 ?_ (y:=fJ)
  refine dD au ?_
  go_wp2
  go_ret2
  rw [bH.out]
  exact ⟨_,rfl,bv,rfl,Sat.sub (aI.shut2 (lv:=lv) (hS4.sb)) jH⟩
end
end Go.Proofs.YtiglchkhikciiaaGreatDoor
namespace Go.Seg
def Log.aF (L:Log):List Int:=L.l.map (·.1)
end Go.Seg
namespace Go.Proofs.YtiglchkhikciiaaGreatDoor
open Go Go.Sl Go.ay Go.MapKept Go.RowKit
theorem Yx:jy Tryz.prog 153=some (.agg #[.int .i64 0,.int .i64 0]):=by kernel_rfl
section
variable {w0 w:World}{F R:List aG}{v bv dv x lv:Value}{q p m K:Nat}{L:Seg.Log}{M:ay}{s:Int×Int}
theorem adI (l k:List Int):ints (l++k)=ints l++ints k:=by unfold ints;rw [aey]
theorem adJ (l:List Int):(ints l).length=l.length:=by unfold ints;rw [aaJ]
theorem ahg (hln:L.l.length≤1048576) (h:Sat w0 w (lD p m L lv::aC 153 2 lv (dR L.l)::F)) :
  (L.l=[]∧lv = .slice none 0 0)∨∃ b cap cs,lv = .slice (some ⟨b,0,none⟩) L.l.length cap∧(∀ (i:Nat) (s:Int×Int),L.l[i]?=some s→cs[i * 2]?=some (.int .i64 s.1)∧cs[i * 2+1]?=some (.int .i64 s.2)) ∧
   Sat w0 w (pt b (.cells cs 153 (0,0))::lD p m L lv::F)∧∀ w1 G,Sat w0 w1 (pt b (.cells cs 153 (0,0))::G)→Sat w0 w1 (aC 153 2 lv (dR L.l)::G):=by
 have h':=h.aZ
 rcases h'.jQ with ⟨rfl,hx,hF⟩|⟨b,n',cap,cs,rfl,hll,hn',hc,hcm,htk,hp⟩
 ·left
  refine ⟨?_,rfl⟩
  cases hl:L.l with
  |nil=>rfl
  |cons a l=>rw [hl]at hx;simp [dR]at hx
 ·right
  rw [jW]at hll
  obtain rfl:n'=L.l.length:=by omega
  refine ⟨b,cap,cs,rfl,?_,hp,fun w1 G hS=>Sat.kC hS (by rw [jW];omega) hn' hc hcm htk⟩
  intro i s hs
  obtain ⟨h1,h2⟩:=Ag _ _ _ hs
  rw [ajW i 2]
  exact ⟨jS htk h1,jS htk h2⟩
set_option maxRecDepth 20000 in
theorem Dn (hL:L.Ok) (h:Sat w0 w (aI p m L::F)) :
  Calls Tryz.prog 31 #[ptr p] w (aO fun v w'=>Sat w0 w' (aC 3 1 v (ints L.aF)::aI p m L::F)):=by
 obtain ⟨lv,hR⟩:=aI.mP h
 clear h
 have hok:=qV hR
 rcases ahg hL.len hR with ⟨hnil,rfl⟩|⟨b,cap,cs,rfl,hcl,hp,hend⟩
 ·have bH:=uQ (show L.aF=[] by unfold Seg.Log.aF;rw [hnil];rfl)
  clear hnil hL
  go_enter Tryz.func31,Tryz.ntmps31
  go_wp2_with fail
  refine hok.mono ?_
  rintro e w2 ⟨v,rfl,rfl,rfl⟩
  clear hok
  go_wp2_with ((with_reducible refine bD ⟨?_⟩);refine dV aQ ah aY bF ak au ?_)
  go_loopg [14,3] 0 (fun g iq ov wr=>iq = .int .i64 0∧ov = .slice none 0 0∧wr=w)
  case atStart=>exact ⟨rfl,rfl,rfl⟩
  case round=>
   obtain ⟨rfl,rfl,rfl⟩:=hrel
   go_wp2
   go_ret
   rw [bH.out]
   exact ⟨_,rfl,Sat.fD.2 (aI.shut2 hR)⟩
 ·have iF:=uQ hcl
  have Ea:=uQ hend
  have jA:=uQ hL.len
  clear hcl hend hL hR
  go_enter Tryz.func31,Tryz.ntmps31
  go_wp2_with fail
  refine hok.mono ?_
  rintro e w2 ⟨v,rfl,rfl,rfl⟩
  clear hok
  go_wp2_with ((with_reducible refine bD ⟨?_⟩);refine dV aQ ah aY bF ak au ?_)
  go_loopg [14,3] L.l.length (fun g iq ov wr=>∃ i:Nat,g=L.l.length - i∧i≤L.l.length∧iq = .int .i64 i ∧
   Sat w0 wr (aC 3 1 ov (ints ((L.l.take i).map (·.1)))::pt b (.cells cs 153 (0,0))::lD p m L (.slice (some ⟨b,0,none⟩) L.l.length cap)::F))
  case atStart=>exact ⟨0,rfl,afm _,rfl,Sat.fD.2 hp⟩
  case round=>
   obtain ⟨i,rfl,hi,rfl,hS⟩:=hrel
   clear hp
   by_cases hlt:i<L.l.length
   ·obtain ⟨s,hs⟩:∃ s,L.l[i]?=some s:=⟨_,aak hlt⟩
    have fB:=uQ (show ints ((L.l.take i).map (·.1))++[.int .i64 s.1]=ints ((L.l.take (i+1)).map (·.1)) by
     rw [ajL,hs,aey,adI];rfl)
    have hlen:(ints ((L.l.take i).map (·.1))).length≤2147483648:=by
     rw [adJ,aaJ,acJ];have:=jA.out;omega
    obtain ⟨d0,d1⟩:=iF.out i s hs
    have IU:=uQ d0;have Hd1:=uQ d1;have bT:=uQ hlt
    have hic:(i:Int)<(L.l.length:Int):=oQ
    have hwi:IntKind.i64.wrap ((i:Int)+1)=(i:Int)+1:=acI _ (by have:=jA.out;omega)
    clear hs d0 d1 hlt
    go_wp2_with (first
     |((with_reducible refine bD ⟨?_⟩);refine Au (b:=b) (o:=i * 2) [.int .i64 s.1,.int .i64 s.2] aQ ah aY (fun j v hj=>by
       rcases j with _|_|j
       ·cases hj;exact IU.out
       ·cases hj;exact Hd1.out
       ·simp at hj) Tryz.underlying153 rfl au ?_)
     |(refine dU Yx aQ rfl ?_;intro q3 w3 hS3)
     |((with_reducible refine bY ⟨?_⟩);refine eY aQ ah ak pQ eF bF au ah ?_;intro wS hS)|((with_reducible refine bD ⟨?_⟩);refine dV aQ ah aY bF ak au ?_)|((with_reducible refine ny ⟨?_⟩);refine nH (e:=3) (sz:=1) (dS:=8) au aQ ak ak ah bF ?_;intro bN wN hN)|((with_reducible refine lg ⟨?_⟩);refine nG 3 1 8 au aQ ah ah aY aY ah bF ah aQ bF bF ak ?_;intro bA nA cA wA hA))
    go_roundg (L.l.length - (i+1))
    case measure=>have:=bT.out;omega
    case rel=>
     refine ⟨i+1,rfl,aiy bT.out,by first|rfl|go_num,?_⟩
     rw [fB.out]at hA
     exact Sat.sb hA
   ·obtain rfl:i=L.l.length:=by omega
    have hic:¬ (L.l.length:Int)<(L.l.length:Int):=oQ
    rw [aiv]at hS
    clear hi hlt
    go_wp2
    go_ret
    refine ⟨_,rfl,?_⟩
    have h7:=Ea.out _ _ (hS.pk)
    exact Sat.sub (aI.shut2 (lv:= .slice (some ⟨b,0,none⟩) L.l.length cap) (Sat.sb h7)) jH
end
section
variable {w0 w:World}{F:List aG}{av bv v:Value}
section
variable {L R:List aG}{b o:Nat}{ops:Array Oper}{rest:List Oper}{a:Act}{Q:Exit→Act→World→Prop}{dst:Option Tmp}{t ty T:TypeId}{pos:String}{after:Array Edge}{P:Program}{x:Operand}{cs:Array Value}{g:Nat×Bool}
theorem vC (h:Stop (wpList P ops Q (⟨dst,.load ty x,t,pos,after,some g⟩::rest) a w)):wpList P ops Q (⟨dst,.load ty x,t,pos,after,some g⟩::rest) a w:=h.out
theorem wV (hw:Region.wanted ⟨dst,.load ty x,t,pos,after,some g⟩ (yielded ops a.tmps)=true) (hx:a.eval x = .pointer (some ⟨b,o,none⟩)) (cl:List Value) (d:TypeDesc) (hc:w.rangeAt b o cl)
  (hu:P.underlying ty=some d) (hd:d.isRow=true) (hi:(P.info? ty).map (·.size)=some cl.length)
  (h:wpList P ops Q rest (a.put dst (.agg cl.toArray)) w):wpList P ops Q (⟨dst,.load ty x,t,pos,after,some g⟩::rest) a w:=
 wpList_step fun _ hK=>by
  rw [ac3 hw]
  exact wp_load_mid ty x rfl b o hx cl d hc hu hd hi (hK _ _ h)
end
end
def aK (p:Seg.aU):List Value:=[.int .i64 p.seg,.int .i64 p.at_,.int .i64 p.size]
def bf (a:Rep.dF):List Value:=[.int .i64 a.tag,.int .i64 a.place.seg,.int .i64 a.place.at_,.int .i64 a.place.size,.int .i64 a.first]
abbrev mW:Rep.dF:=⟨0,Seg.aU.zero,0⟩
abbrev mX:Seg.aU:=Seg.aU.zero
theorem oM (p:Seg.aU):(aK p).length=3:=rfl
theorem rG (a:Rep.dF):(bf a).length=5:=rfl
theorem uF (p:Seg.aU):(aK p).all (·.oneCell')=true:=rfl
theorem xI (a:Rep.dF):(bf a).all (·.oneCell')=true:=rfl
def slotL {V:Type} (enc:V→List Value) (x:Tab.Slot V):List Value:= .int .i64 x.st::(aA x.key++enc x.val)
abbrev fU (p:Nat) (T:TypeId) (sv:Value) (n g:Nat):aG:=pt p (.cells #[sv,.int .i64 n,.int .i64 g] T (0,0))
theorem iT {V:Type} (enc:V→List Value) (x:Tab.Slot V) (hk:x.key.length=32) (m:Nat) (he:(enc x.val).length=m):(slotL enc x).length=33+m:=by
 unfold slotL
 rw [aja,aal,aV,hk,he];omega
theorem qJ (b:aj.Bs):(aA b).all (·.oneCell')=true:=by
 rw [ajE]
 intro v hv
 unfold aA at hv
 obtain ⟨c,_,rfl⟩:=acK.1 hv
 rfl
theorem lQ {V:Type} (enc:V→List Value) (x:Tab.Slot V) (he:(enc x.val).all (·.oneCell')=true):(slotL enc x).all (·.oneCell')=true:=by
 unfold slotL
 rw [alE,ajZ,qJ,he];rfl
theorem ahy {V:Type} (enc:V→List Value) (x:Tab.Slot V){j:Nat}{v:Value} (h:(aA x.key)[j]?=some v):(slotL enc x)[1+j]?=some v:=by
 unfold slotL
 rw [alm,aj3,adV (abl.1 h).1];exact h
theorem NY {V:Type} (enc:V→List Value) (x:Tab.Slot V) (hk:x.key.length=32){j:Nat}{v:Value} (h:(enc x.val)[j]?=some v):(slotL enc x)[33+j]?=some v:=by
 unfold slotL
 rw [show 33+j=32+j+1 by omega,aj3,adQ (by rw [aV,hk];omega),aV,hk,akY];exact h
theorem yX:jy Tryz.prog 355=some (.agg (slotL bf ⟨0,aj.zero32,⟨0,Seg.aU.zero,0⟩⟩).toArray):=by kernel_rfl
theorem uN:jy Tryz.prog 178=some (.agg (slotL aK ⟨0,aj.zero32,Seg.aU.zero⟩).toArray):=by kernel_rfl
section
variable {w0 w:World}{L R:List aG}{b:Nat}{T:TypeId}{V:Type}{enc:V→List Value}{x:Tab.Slot V}{l:List Value}
theorem oN (h:Sat w0 w (pt b (.cells l.toArray T (0,0))::R)):w.rangeAt b 0 l:=fun j v hj=>by
 have:=h.cellP aT j (by rw [abL];exact hj)
 rw [aen];exact this
theorem qZ (h:Sat w0 w (pt b (.cells (slotL enc x).toArray T (0,0))::R)):w.rangeAt b 1 (aA x.key):=fun j v hj=>
 h.cellP aT (1+j) (by rw [abL];exact ahy enc x hj)
theorem XD (hk:x.key.length=32) (h:Sat w0 w (pt b (.cells (slotL enc x).toArray T (0,0))::R)):w.rangeAt b 33 (enc x.val):=fun j v hj=>
 h.cellP aT (33+j) (by rw [abL];exact NY enc x hk hj)
end
end Go.Proofs.YtiglchkhikciiaaGreatDoor
namespace Go.Tab
open Go.aj (Bs)
section
variable {V:Type}{x:Slot V}{c:Nat}
theorem SG (hc:∃ j,c=2^j∧3≤j) (hk:x.key.length=32) (hx:x.st=0):Good (List.replicate c x):=
 ⟨by rw [ajI];exact hc,(fun y hy=>by rw [List.eq_of_mem_replicate hy,hx];decide),(fun y hy=>by rw [List.eq_of_mem_replicate hy];exact hk),fun i y hy h1=>by
  rw [List.eq_of_mem_replicate (abA hy),hx]at h1;cases h1⟩
theorem QY (hx:x.st=0) (k:Bs) (v:V):¬ Has (List.replicate c x) k v:=by
 rintro ⟨i,y,hy,h1,_⟩
 rw [List.eq_of_mem_replicate (abA hy),hx]at h1;cases h1
theorem QX (hx:x.st=0):jB (List.replicate c x)=0:=by unfold jB;rw [List.countP_replicate,abw (by rw [hx];decide)]
theorem QZ (hx:x.st=0):used (List.replicate c x)=0:=by unfold used;rw [List.countP_replicate,abw (by rw [hx];decide)]
theorem U8 (hk:x.key.length=32) (hx:x.st=0):(⟨List.replicate 8 x,0,0⟩:Tb V).Ok:=
 ⟨SG ⟨3,rfl,acy 3⟩ hk hx,(QX hx).symm,(QZ hx).symm,by simp,by simp⟩
theorem U6 (hx:x.st=0) (n g:Nat):(⟨List.replicate 8 x,n,g⟩:Tb V).Is (fun _=>none):=fun k v=>⟨fun h=>absurd h (QY hx k v),fun h=>by cases h⟩
theorem Tb.Is.some {t:Tb V}{m:Bs→Option V} (hm:t.Is m) (ho:t.Ok){k:Bs}{d:Nat} (he:Ends t.slots k d){y:Slot V} (hy:t.slots[pos k t.slots.length d]?=some y):(y.st=1→m k=some y.val)∧(y.st≠1→m k=none):=by
 refine ⟨fun h1=>(hm k _).1 (ES he hy h1).2,fun h1=>?_⟩
 cases hmk:m k with
 |none=>rfl
 |some v=>exact absurd ((hm k v).2 hmk) ((ER ho.good he hy h1).2 v)
end
end Go.Tab
namespace Go.Proofs.YtiglchkhikciiaaGreatDoor
open Go Go.Sl Go.ay Go.MapKept Go.RowKit
theorem UY (z:Array Value) (h:0<z.size):∀ n,(madeCells z (n * z.size)).toList=(List.replicate n z.toList).flatten
 |0=>by simp [madeCells]
 |n+1=>by
  have ih:=UY z h n
  have hl:(madeCells z ((n+1) * z.size)).toList=(List.range ((n+1) * z.size)).map (z[· % z.size]!):=by unfold madeCells;simp
  have hl0:(madeCells z (n * z.size)).toList=(List.range (n * z.size)).map (z[· % z.size]!):=by unfold madeCells;simp
  rw [hl0]at ih
  rw [hl,Nat.succ_mul,List.range_add,aey,ih,List.replicate_succ',List.flatten_append]
  congr 1
  rw [aj9]
  simp only [ale,List.flatten_nil,afo]
  refine List.ext_getElem (by simp) fun i h1 h2=>?_
  have hi:i<z.size:=by simpa using h1
  simp only [List.getElem_map,List.getElem_range,Function.comp]
  rw [ajW n,Nat.mul_add_mod,akN hi,getElem!_pos z i hi,Array.getElem_toList]
section
variable {P:Program}{w0 w:World}{L L' R:List aG}{b o:Nat}{ops:Array Oper}{rest:List Oper}{a:Act}{Q:Exit→Act→World→Prop}{dst:Option Tmp}{t ty T e sz dS n c:Nat}{pos:String}{after:Array Edge}{x y:Operand}{v:Value}{zs:List Value}
theorem at_make (h:Stop (wpList P ops Q (⟨dst,.makeSlice ty x y,t,pos,after,none⟩::rest) a w)):wpList P ops Q (⟨dst,.makeSlice ty x y,t,pos,after,none⟩::rest) a w:=h.out
theorem Ik (hb:nP P ty e sz dS=true) (hz:jy P e=some (.agg zs.toArray)) (hs:Sat w0 w L) (hx:a.eval x = .int .i64 n) (hy:a.eval y = .int .i64 n) (hle:dS * n≤281474976710656) (hm:n≤9223372036854775807)
  (hK:∀ b w',Sat w0 w' (aC e sz (.slice (some ⟨b,0,none⟩) n n) (List.replicate n zs).flatten::L)→wpList P ops Q rest (a.put dst (.slice (some ⟨b,0,none⟩) n n)) w') :
  wpList P ops Q (⟨dst,.makeSlice ty x y,t,pos,after,none⟩::rest) a w:=by
 obtain ⟨hu,i,z,hi,hz1,h1,h2,h3,h4⟩:=vg hb
 have hzz:z = .agg zs.toArray:=by
  unfold jy at hz
  rw [hi]at hz
  simp only [Option.bind_some]at hz
  rw [hz1]at hz
  exact ake hz
 subst hzz
 have hzl:zs.length=sz:=by rw [← aaI];exact h3
 have hr:=run_make (P:=P) w ty e i (.agg zs.toArray) hu hi hz1 .i64 .i64 n n oQ (alC _) (by rw [h2,← alz];omega) oQ
 simp only [alf]at hr
 have hS:=hs.alloc (.cells (madeCells (Value.agg zs.toArray).cells (n * i.size)) e)
 refine ajx rfl fun _ hK'=>?_
 unfold Oper.wp execOp
 simp only [hx,hy,hr,adO,aeC,ac2]
 refine hK' _ _ (hK _ _ ?_)
 have hm:=UY zs.toArray (by rw [aaI];omega) n
 rw [aaI,hzl]at hm
 refine Sat.kC hS (by rw [List.length_flatten,List.map_replicate,List.sum_replicate_nat,hzl]) (acy _) (by rw [size_madeCells,h1];exact acy _) (by unfold maxLen;omega) ?_
 rw [h1]
 show (madeCells zs.toArray (n * sz)).toList.take (n * sz)=_
 rw [hm,aeb (by rw [List.length_flatten,List.map_replicate,List.sum_replicate_nat,hzl];exact acy _)]
end
end Go.Proofs.YtiglchkhikciiaaGreatDoor
