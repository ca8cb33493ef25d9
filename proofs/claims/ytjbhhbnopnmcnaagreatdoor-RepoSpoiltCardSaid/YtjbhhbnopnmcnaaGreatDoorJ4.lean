import Derived.Test.YtjbhhbnopnmcnaaGreatDoorJ3
namespace Go.Proofs.YtjbhhbnopnmcnaaGreatDoor
open Go Go.Sl Go.Med Go.MapKept Go.RowKit
theorem sQ {p : Prop} (h : p := by first | assumption | exact entA_size _ _ rfl | exact entA_size _ _ aQ | exact entA_size _ _ (Hid.out aQ)) : p := h
theorem pQ {p : Prop} (h : p := by first | (simp only [putsAt, Value.cells]; (try go_frame); first | done | rfl) | rfl) : p := h
theorem gQ {p : Prop} (h : p := by go_frame; first | done | rfl) : p := h
theorem fQ {p : Prop} (h : p := by first | rfl | assumption | exact Hid.out aQ) : p := h
theorem wQ {p : Prop} (h : p := by with_reducible rfl) : p := h
end Go.Proofs.YtjbhhbnopnmcnaaGreatDoor
set_option linter.unusedVariables false
set_option maxHeartbeats 128000000
namespace Go.Rep
open Go.Frm (Bs Fnd)
open Go.Seg (Plc)
open Go.Tab (put)
abbrev Row:=Int×Fnd
def rkey (r:Row):Bs:=r.2.e.key
def rtag (r:Row):Int:=r.2.e.tag
def rplc (r:Row):Plc:=⟨r.1,r.2.at_,r.2.size⟩
structure Abt where
 tag:Int
 place:Plc
 first:Int
def newest:List Row→Bs→Option Row
 |[],_=>none
 |r::l,k=>match newest l k with
  |some x=>some x
  |none=>if rtag r≠2∧rkey r=k then some r else none
def firstPut:List Row→Bs→Option Row
 |[],_=>none
 |r::l,k=>if rtag r=0∧rkey r=k then some r else firstPut l k
def first (l:List Row) (k:Bs):Int:=match firstPut l k with
 |some r=>r.1
 |none=> -1
def ledger (l:List Row) (k:Bs):Option Abt:=(newest l k).map fun r=>⟨rtag r,rplc r,first l k⟩
def first0 (m:Bs→Option Abt) (r:Row):Int:=match m (rkey r) with
 |some a=>a.first
 |none=> -1
def first1 (m:Bs→Option Abt) (r:Row):Int:=if rtag r=0∧first0 m r<0 then r.1 else first0 m r
def takeOne (m:Bs→Option Abt) (r:Row):Bs→Option Abt:=
 if rtag r=2 then m else put m (rkey r) ⟨rtag r,rplc r,first1 m r⟩
theorem newest_snoc (l:List Row) (r:Row) (k:Bs):newest (l++[r]) k=if rtag r≠2∧rkey r=k then some r else newest l k:=by
 induction l with
 |nil=>simp only [List.nil_append,newest]
 |cons x l ih=>
  simp only [List.cons_append,newest,ih]
  split
  ·rename_i h;split at h
   ·rename_i h2;rw [if_pos h2];cases h;rfl
   ·rename_i h2;rw [if_neg h2,h]
  ·rename_i h;split at h
   ·cases h
   ·rename_i h2;rw [if_neg h2,h]
theorem firstPut_snoc (l:List Row) (r:Row) (k:Bs):firstPut (l++[r]) k=match firstPut l k with
  |some x=>some x
  |none=>if rtag r=0∧rkey r=k then some r else none:=by
 induction l with
 |nil=>simp only [List.nil_append,firstPut]
 |cons x l ih=>
  simp only [List.cons_append,firstPut,ih]
  split
  ·rename_i h;simp only
  ·rfl
theorem newest_none {l:List Row}{k:Bs} (h:newest l k=none):firstPut l k=none:=by
 induction l with
 |nil=>rfl
 |cons x l ih=>
  simp only [newest]at h
  split at h
  ·cases h
  ·rename_i h1
   split at h
   ·cases h
   ·rename_i h2
    simp only [firstPut]
    rw [if_neg fun h3=>h2 ⟨by rw [h3.1];decide,h3.2⟩]
    exact ih h1
theorem firstPut_mem {l:List Row}{k:Bs}{r:Row} (h:firstPut l k=some r):r∈l∧rtag r=0∧rkey r=k:=by
 induction l with
 |nil=>cases h
 |cons x l ih=>
  simp only [firstPut]at h
  split at h
  ·cases h;exact ⟨.head _,by assumption⟩
  ·exact ⟨.tail _ (ih h).1,(ih h).2⟩
theorem ledger_snoc (l:List Row) (r:Row) (h0:∀ x∈l,0≤x.1):ledger (l++[r])=takeOne (ledger l) r:=by
 funext k
 unfold takeOne
 by_cases h2:rtag r=2
 ·rw [if_pos h2]
  unfold ledger first
  rw [newest_snoc,if_neg (fun h=>h.1 h2),firstPut_snoc]
  cases firstPut l k with
  |some x=>rfl
  |none=>simp only;rw [if_neg (fun h=>by rw [h2]at h;exact absurd h.1 dCz)]
 ·rw [if_neg h2]
  unfold put
  by_cases hk:k=rkey r
  ·subst hk
   rw [if_pos rfl]
   have e1:∀ k,ledger l k=(newest l k).map fun r=>⟨rtag r,rplc r,first l k⟩:=fun _=>rfl
   have e2:ledger (l++[r]) (rkey r)=some ⟨rtag r,rplc r,first (l++[r]) (rkey r)⟩:=by
    unfold ledger
    rw [newest_snoc,if_pos ⟨h2,rfl⟩,Option.map_some]
   rw [e2]
   congr 2
   unfold first1 first0
   rw [e1]
   unfold first
   rw [firstPut_snoc]
   cases hn:newest l (rkey r) with
   |none=>
    rw [newest_none hn]
    simp only [Option.map_none]
    by_cases ht:rtag r=0
    ·rw [if_pos ⟨ht,trivial⟩,if_pos ⟨ht,by decide⟩]
    ·rw [if_neg (fun h=>ht h.1),if_neg (fun h=>ht h.1)]
   |some x=>
    simp only [Option.map_some]
    cases hf:firstPut l (rkey r) with
    |some y=>
     simp only
     rw [if_neg (fun h=>by have:=h0 y (firstPut_mem hf).1;omega)]
    |none=>
     simp only
     by_cases ht:rtag r=0
     ·rw [if_pos ⟨ht,trivial⟩,if_pos ⟨ht,by decide⟩]
     ·rw [if_neg (fun h=>ht h.1),if_neg (fun h=>ht h.1)]
  ·rw [if_neg hk]
   unfold ledger first
   rw [newest_snoc,if_neg (fun h=>hk h.2.symm),firstPut_snoc]
   cases firstPut l k with
   |some x=>rfl
   |none=>simp only;rw [if_neg (fun h=>hk h.2.symm)]
def counts (a:Abt):Bool:=decide (a.tag=0) || (decide (0≤a.first) && decide (a.first<a.place.seg))
def isNew (l:List Row) (i:Nat):Bool:=match l[i]? with
 |none=>false
 |some r=>decide (rtag r<2) && (l.drop (i+1)).all fun x => !(decide (rtag x<2) && decide (rkey x=rkey r))
def cnt (l:List Row) (i:Nat):Bool:=match l[i]? with
 |none=>false
 |some r => !decide (rtag r=2) && isNew l i && (decide (rtag r=0) || (l.take i).any fun x=>decide (rtag x=0) && decide (rkey x=rkey r) && decide (x.1<r.1))
structure Rows (l:List Row):Prop where
 tag:∀ r∈l,rtag r=0∨rtag r=1∨rtag r=2
 seg:∀ r∈l,0≤r.1
 rise:l.Pairwise fun a b=>a.1≤b.1
theorem new_none {l:List Row}{k:Bs} (ht:∀ r∈l,rtag r=0∨rtag r=1∨rtag r=2):newest l k=none↔(l.all fun x => !(decide (rtag x<2) && decide (rkey x=k)))=true:=by
 induction l with
 |nil=>exact ⟨fun _=>rfl,fun _=>rfl⟩
 |cons y l ih=>
  rw [List.all_cons,Bool.and_eq_true,← ih (fun r h=>ht r (.tail _ h))]
  have hy:=ht y (.head _)
  simp only [newest]
  cases hn:newest l k with
  |some x=>simp
  |none=>
   simp only [and_true]
   by_cases hc:rtag y≠2∧rkey y=k
   ·rw [if_pos hc]
    have:rtag y<2:=oQ
    simp [this,hc.2]
   ·rw [if_neg hc]
    simp only [true_iff,Bool.not_eq_true',Bool.and_eq_false_iff,decide_eq_false_iff_not]
    by_cases h2:rtag y<2
    ·exact .inr fun h=>hc ⟨by omega,h⟩
    ·exact .inl h2
theorem newest_at:∀ {l:List Row}{i:Nat}{r:Row},(∀ r∈l,rtag r=0∨rtag r=1∨rtag r=2)→l[i]?=some r→isNew l i=true→newest l (rkey r)=some r
 |[],_,_,_,hi,_=>by simp at hi
 |x::l,0,r,ht,hi,hn=>by
  obtain rfl:x=r:=by simpa using hi
  unfold isNew at hn
  rw [hi]at hn
  simp only [Bool.and_eq_true,decide_eq_true_eq]at hn
  have h2:newest l (rkey x)=none:=(new_none fun r h=>ht r (.tail _ h)).2 hn.2
  have:=hn.1
  simp only [newest,h2]
  rw [if_pos ⟨by omega,trivial⟩]
 |x::l,i+1,r,ht,hi,hn=>by
  have hi':l[i]?=some r:=by simpa using hi
  have hn':isNew l i=true:=by
   unfold isNew at hn ⊢
   rw [hi]at hn;rw [hi']
   exact hn
  simp only [newest,newest_at (fun r h=>ht r (.tail _ h)) hi' hn']
theorem newest_is:∀ {l:List Row}{k:Bs}{r:Row},(∀ r∈l,rtag r=0∨rtag r=1∨rtag r=2)→newest l k=some r→∃ i,l[i]?=some r∧isNew l i=true∧rkey r=k∧rtag r≠2
 |[],_,_,_,h=>by cases h
 |x::l,k,r,ht,h=>by
  simp only [newest]at h
  cases hn:newest l k with
  |some y=>
   rw [hn]at h
   obtain rfl:y=r:=by simpa using h
   obtain ⟨i,a,b,c,d⟩:=newest_is (fun r h=>ht r (.tail _ h)) hn
   refine ⟨i+1,by simpa using a,?_,c,d⟩
   unfold isNew at b ⊢
   rw [a]at b
   rw [show (x::l)[i+1]?=some y by simpa using a]
   exact b
  |none=>
   rw [hn]at h
   simp only at h
   split at h
   ·rename_i hc
    obtain rfl:x=r:=by simpa using h
    refine ⟨0,rfl,?_,hc.2,hc.1⟩
    have hx:=ht x (.head _)
    unfold isNew
    simp only [List.getElem?_cons_zero,Nat.zero_add,List.drop_one,List.tail_cons,Bool.and_eq_true,decide_eq_true_eq]
    refine ⟨by omega,?_⟩
    rw [← new_none fun r h=>ht r (.tail _ h),hc.2];exact hn
   ·cases h
theorem firstPut_le:∀ {l:List Row}{k:Bs}{r x:Row},l.Pairwise (fun a b=>a.1≤b.1)→firstPut l k=some r→x∈l→rtag x=0→rkey x=k→r.1≤x.1
 |[],_,_,_,_,h,_,_,_=>by cases h
 |y::l,k,r,x,hp,h,hx,h0,hk=>by
  obtain ⟨p1,p2⟩:=List.pairwise_cons.1 hp
  simp only [firstPut]at h
  split at h
  ·obtain rfl:y=r:=by simpa using h
   rcases List.mem_cons.1 hx with rfl|hx
   ·exact Int.le_refl _
   ·exact p1 x hx
  ·rename_i hc
   rcases List.mem_cons.1 hx with rfl|hx
   ·exact absurd ⟨h0,hk⟩ hc
   ·exact firstPut_le p2 h hx h0 hk
theorem firstPut_none {l:List Row}{k:Bs} (h:firstPut l k=none):∀ x∈l,¬ (rtag x=0∧rkey x=k):=by
 induction l with
 |nil=>intro x hx;cases hx
 |cons y l ih=>
  simp only [firstPut]at h
  split at h
  ·cases h
  ·rename_i hc
   intro x hx
   rcases List.mem_cons.1 hx with rfl|hx
   ·exact hc
   ·exact ih h x hx
theorem cnt_eq {l:List Row}{i:Nat}{r:Row} (hl:Rows l) (hi:l[i]?=some r) (hn:isNew l i=true):∃ a,ledger l (rkey r)=some a∧a.tag=rtag r∧a.place=rplc r∧counts a=cnt l i:=by
 have h1:=newest_at hl.tag hi hn
 refine ⟨⟨rtag r,rplc r,first l (rkey r)⟩,by unfold ledger;rw [h1];rfl,rfl,rfl,?_⟩
 have hmem:=List.mem_of_getElem? hi
 have h2:rtag r≠2:=by
  unfold isNew at hn
  rw [hi]at hn
  simp only [Bool.and_eq_true,decide_eq_true_eq]at hn
  have:=hn.1
  omega
 unfold cnt
 rw [hi]
 simp only [hn,h2,decide_false,Bool.not_false,Bool.true_and]
 unfold counts
 simp only
 by_cases h0:rtag r=0
 ·simp [h0]
 ·simp only [h0,decide_false,Bool.false_or]
  rw [Bool.eq_iff_iff]
  simp only [Bool.and_eq_true,decide_eq_true_eq,List.any_eq_true]
  unfold first rplc
  simp only
  cases hf:firstPut l (rkey r) with
  |none=>
   simp only
   constructor
   ·intro h;omega
   ·rintro ⟨x,hx,⟨h3,h4⟩,_⟩
    exact absurd ⟨h3,h4⟩ (firstPut_none hf x (List.mem_of_mem_take hx))
  |some y=>
   obtain ⟨m1,m2,m3⟩:=firstPut_mem hf
   simp only
   constructor
   ·rintro ⟨_,h5⟩
    obtain ⟨j,hj,he⟩:=List.getElem_of_mem m1
    have hij:j<i:=by
     rcases Nat.lt_trichotomy j i with q|q|q
     ·exact q
     ·subst q
      rw [List.getElem?_eq_getElem hj,he]at hi;cases hi
      exact absurd m2 h0
     ·obtain ⟨hi',he'⟩:=List.getElem?_eq_some_iff.1 hi
      have:=List.pairwise_iff_getElem.1 hl.rise i j hi' hj q
      rw [he,he']at this;omega
    refine ⟨y,?_,⟨m2,m3⟩,h5⟩
    rw [List.mem_take_iff_getElem]
    exact ⟨j,by omega,he⟩
   ·rintro ⟨x,hx,⟨h3,h4⟩,h5⟩
    have:=firstPut_le hl.rise hf (List.mem_of_mem_take hx) h3 h4
    exact ⟨hl.seg y m1,by omega⟩
theorem cnt_new {l:List Row}{i:Nat} (h:cnt l i=true):isNew l i=true:=by
 unfold cnt at h
 split at h
 ·cases h
 ·simp only [Bool.and_eq_true]at h
  exact h.1.2
end Go.Rep
namespace Go.Tab
open Go.Frm (Bs)
theorem bs_tri (a b:Bs):a<b∨a=b∨b<a:=by
 by_cases h1:a<b
 ·exact .inl h1
 ·rcases List.le_iff_lt_or_eq.1 (List.not_lt.1 h1) with h2|h2
  ·exact .inr (.inr h2)
  ·exact .inr (.inl h2.symm)
structure Lists {V:Type} (m:Bs→Option V) (l:List (Bs×V)):Prop where
 rise:l.Pairwise fun a b=>a.1<b.1
 mem:∀ k v,(k,v)∈l↔m k=some v
theorem rise_ext {V:Type}:∀ {l l':List (Bs×V)},l.Pairwise (fun a b=>a.1<b.1)→l'.Pairwise (fun a b=>a.1<b.1)→(∀ p,p∈l↔p∈l')→l=l'
 |[],[],_,_,_=>rfl
 |[],b::l',_,_,h=>by have:=(h b).2 (.head _);cases this
 |a::l,[],_,_,h=>by have:=(h a).1 (.head _);cases this
 |a::l,b::l',h1,h2,h=>by
  obtain ⟨a1,a2⟩:=List.pairwise_cons.1 h1
  obtain ⟨b1,b2⟩:=List.pairwise_cons.1 h2
  have hab:a=b:=by
   rcases List.mem_cons.1 ((h a).1 (.head _)) with e|h3
   ·exact e
   ·rcases List.mem_cons.1 ((h b).2 (.head _)) with e|h4
    ·exact e.symm
    ·exact absurd (List.lt_trans (b1 a h3) (a1 b h4)) (List.lt_irrefl _)
  subst hab
  congr 1
  refine rise_ext a2 b2 fun p=>?_
  have:=h p
  rw [List.mem_cons,List.mem_cons]at this
  constructor
  ·intro hp
   rcases this.1 (.inr hp) with e|h3
   ·subst e;exact absurd (a1 p hp) (List.lt_irrefl _)
   ·exact h3
  ·intro hp
   rcases this.2 (.inr hp) with e|h3
   ·subst e;exact absurd (b1 p hp) (List.lt_irrefl _)
   ·exact h3
theorem Lists.unique {V:Type}{m:Bs→Option V}{l l':List (Bs×V)} (h:Lists m l) (h':Lists m l'):l=l':=
 rise_ext h.rise h'.rise fun p=>by rw [h.mem p.1 p.2,h'.mem p.1 p.2]
theorem Lists.keys {V:Type}{m:Bs→Option V}{l:List (Bs×V)} (h:Lists m l):(l.map (·.1)).Nodup:=by
 rw [List.nodup_iff_pairwise_ne,List.pairwise_map]
 exact h.rise.imp fun {a b} hab e=>by rw [e]at hab;exact List.lt_irrefl _ hab
def ins {V:Type}:List (Bs×V)→Bs×V→List (Bs×V)
 |[],x=>[x]
 |y::l,x=>if x.1<y.1 then x::y::l else y::ins l x
end Go.Tab
namespace Go.Rep
open Go.Frm (Bs Fnd)
open Go.Seg (Plc)
open Go.Tab
def idx (l:List Row):Nat→List (Bs×Plc)
 |0=>[]
 |i+1=>match l[i]? with
  |none=>idx l i
  |some r=>if cnt l i=true∧rtag r=0 then ins (idx l i) (rkey r,rplc r) else idx l i
def live (l:List Row) (s:Int):Nat→Int
 |0=>0
 |i+1=>match l[i]? with
  |none=>live l s i
  |some r=>if cnt l i=true∧r.1=s then live l s i+r.2.size else live l s i
def liveL (s:Int):List (Bs×Abt)→Int
 |[]=>0
 |p::l=>(if counts p.2=true∧p.2.place.seg=s then p.2.place.size else 0)+liveL s l
def puts (kv:List (Bs×Abt)):List (Bs×Plc):=(kv.filter fun p=>decide (p.2.tag=0)).map fun p=>(p.1,p.2.place)
theorem new_one {l:List Row}{i j:Nat}{r x:Row} (hi:l[i]?=some r) (hj:l[j]?=some x) (h1:isNew l i=true) (h2:isNew l j=true) (hk:rkey r=rkey x):i=j:=by
 have aux:∀ {i j:Nat} {r x:Row},l[i]?=some r→l[j]?=some x→isNew l i=true→isNew l j=true→rkey r=rkey x→¬ i<j:=by
  intro i j r x hi hj h1 h2 hk hlt
  unfold isNew at h1 h2
  rw [hi]at h1;rw [hj]at h2
  simp only [Bool.and_eq_true,decide_eq_true_eq,List.all_eq_true]at h1 h2
  have hm:x∈l.drop (i+1):=by
   refine List.mem_of_getElem? (i:=j - (i+1)) ?_
   rw [List.getElem?_drop,show i+1+(j - (i+1))=j by omega];exact hj
  have:=h1.2 x hm
  simp [h2.1,hk]at this
 rcases Nat.lt_trichotomy i j with q|q|q
 ·exact absurd q (aux hi hj h1 h2 hk)
 ·exact q
 ·exact absurd q (aux hj hi h2 h1 hk.symm)
def newKeys (l:List Row):Nat→List Bs
 |0=>[]
 |i+1=>match l[i]? with
  |none=>newKeys l i
  |some r=>if isNew l i=true then rkey r::newKeys l i else newKeys l i
theorem newKeys_mem {l:List Row}:∀ {n:Nat}{k:Bs},k∈newKeys l n↔∃ i r,i<n∧l[i]?=some r∧isNew l i=true∧rkey r=k
 |0,k=>by simp [newKeys]
 |n+1,k=>by
  have ih:=@newKeys_mem l n k
  unfold newKeys
  constructor
  ·intro h
   split at h
   ·obtain ⟨i,r,a,b⟩:=ih.1 h;exact ⟨i,r,by omega,b⟩
   ·rename_i r hr
    split at h
    ·rename_i hc
     rcases List.mem_cons.1 h with e|h
     ·exact ⟨n,r,by omega,hr,hc,e.symm⟩
     ·obtain ⟨i,r,a,b⟩:=ih.1 h;exact ⟨i,r,by omega,b⟩
    ·obtain ⟨i,r,a,b⟩:=ih.1 h;exact ⟨i,r,by omega,b⟩
  ·rintro ⟨i,r,hi,hr,hc,rfl⟩
   by_cases hin:i<n
   ·have:=ih.2 ⟨i,r,hin,hr,hc,rfl⟩
    split
    ·exact this
    ·split
     ·exact .tail _ this
     ·exact this
   ·obtain rfl:i=n:=by omega
    rw [hr]
    simp only
    rw [if_pos hc]
    exact .head _
theorem newKeys_nodup {l:List Row}:∀ n,(newKeys l n).Nodup
 |0=>List.nodup_nil
 |n+1=>by
  unfold newKeys
  split
  ·exact newKeys_nodup n
  ·rename_i r hr
   split
   ·rename_i hc
    refine List.nodup_cons.2 ⟨fun h=>?_,newKeys_nodup n⟩
    obtain ⟨i,x,a,b,c,d⟩:=newKeys_mem.1 h
    have:=new_one b hr c hc d
    omega
   ·exact newKeys_nodup n
def adds (l:List Row) (s:Int) (k:Bs):Int:=match ledger l k with
 |some a=>if counts a=true∧a.place.seg=s then a.place.size else 0
 |none=>0
theorem sum_perm {f:Bs→Int}{l l':List Bs} (h:l.Perm l'):(l.map f).sum=(l'.map f).sum:=by
 induction h with
 |nil=>rfl
 |cons x _ ih=>simp only [List.map_cons,List.sum_cons,ih]
 |swap x y l=>simp only [List.map_cons,List.sum_cons];omega
 |trans _ _ h1 h2=>rw [h1,h2]
theorem live_new {l:List Row} (hl:Rows l) (s:Int):∀ n,live l s n=((newKeys l n).map (adds l s)).sum
 |0=>rfl
 |n+1=>by
  have ih:=live_new hl s n
  unfold live newKeys
  split
  ·rename_i hr;rw [ih]
  ·rename_i r hr
   by_cases hn:isNew l n=true
   ·obtain ⟨a,h1,h2,h3,h4⟩:=cnt_eq hl hr hn
    rw [if_pos hn,List.map_cons,List.sum_cons,ih]
    unfold adds
    rw [h1]
    simp only
    rw [h4,h3,show (rplc r).seg=r.1 from rfl,show (rplc r).size=(r.2.size:Int) from rfl]
    split
    ·exact Int.add_comm _ _
    ·exact (Int.zero_add _).symm
   ·rw [if_neg hn,if_neg (fun h=>hn (cnt_new h.1)),ih]
theorem liveL_sum {l:List Row} (s:Int):∀ (kv:List (Bs×Abt)),(∀ p∈kv,ledger l p.1=some p.2)→liveL s kv=((kv.map (·.1)).map (adds l s)).sum
 |[],_=>rfl
 |p::kv,h=>by
  rw [List.map_cons,List.map_cons,List.sum_cons,← liveL_sum s kv fun q hq=>h q (.tail _ hq)]
  unfold adds
  rw [h p (.head _)]
  rfl
theorem live_eq {l:List Row} (hl:Rows l){kv:List (Bs×Abt)} (hk:Lists (ledger l) kv) (s:Int):live l s l.length=liveL s kv:=by
 rw [live_new hl,liveL_sum s kv fun p hp=>(hk.mem p.1 p.2).1 hp]
 refine sum_perm ((List.perm_ext_iff_of_nodup (newKeys_nodup _) hk.keys).2 fun k=>?_)
 rw [newKeys_mem,List.mem_map]
 constructor
 ·rintro ⟨i,r,_,hr,hn,rfl⟩
  obtain ⟨a,h1,_⟩:=cnt_eq hl hr hn
  exact ⟨(rkey r,a),(hk.mem _ _).2 h1,rfl⟩
 ·rintro ⟨⟨k',a⟩,hp,rfl⟩
  have h3:=(hk.mem _ _).1 hp
  unfold ledger at h3
  cases hn:newest l k' with
  |none=>rw [hn]at h3;cases h3
  |some r=>
   obtain ⟨i,a,b,c,_⟩:=newest_is hl.tag hn
   exact ⟨i,r,(List.getElem?_eq_some_iff.1 a).1,a,b,c⟩
end Go.Rep
namespace Go.Proofs.YtjbhhbnopnmcnaaGreatDoor
open Go Go.Sl Go.Med Go.MapKept Go.RowKit
section
variable {P:Program}{w0 w:World}{L L' R:List HProp}{b:Nat}{ops:Array Oper}{rest:List Oper}{a:Act}{Q:Exit→Act→World→Prop}
variable {dst:Option Tmp}{t ty T:TypeId}{pos:String}{after:Array Edge}{x y z:Operand}{cs:Array Value}{v:Value}{o:Nat}
variable {vx vy:Value}{ad:Addr}{fl:Nat}{bo:BinOp}{uo:UnOp}{tz:TypeId}{G:World→Prop}
theorem yg_move {g:Option (Nat×Bool)} (hw:Region.wanted ⟨dst,.move x,t,pos,after,g⟩ (yielded ops a.tmps)=true) (hx:a.eval x=v):Yields P ops ⟨dst,.move x,t,pos,after,g⟩ v a:=
 .inl ⟨hw,fun w=>by simp only [execOp,hx];rfl⟩
theorem yg_nil {g:Option (Nat×Bool)} (hw:Region.wanted ⟨dst,.nilCheck x,t,pos,after,g⟩ (yielded ops a.tmps)=true) (hx:a.eval x = .pointer (some ad)):Yields P ops ⟨dst,.nilCheck x,t,pos,after,g⟩ (.pointer (some ad)) a:=
 .inl ⟨hw,fun w=>by simp only [execOp,hx];rfl⟩
theorem yg_field {g:Option (Nat×Bool)} (hw:Region.wanted ⟨dst,.fieldAddr ty x fl,t,pos,after,g⟩ (yielded ops a.tmps)=true) (hx:a.eval x=vx) (hr:∀ w,(Instr.fieldAt ty vx fl).run P w = .ok v w):Yields P ops ⟨dst,.fieldAddr ty x fl,t,pos,after,g⟩ v a:=
 .inl ⟨hw,fun w=>by simp only [execOp,hx,Sem.run_bind,hr,Result.andThen_ok,Sem.run_pure]⟩
theorem yg_index {g:Option (Nat×Bool)} (hw:Region.wanted ⟨dst,.indexAddr ty x y,t,pos,after,g⟩ (yielded ops a.tmps)=true) (hx:a.eval x=vx) (hy:a.eval y=vy) (hr:∀ w,(Instr.indexAt ty vx vy).run P w = .ok v w):Yields P ops ⟨dst,.indexAddr ty x y,t,pos,after,g⟩ v a:=
 .inl ⟨hw,fun w=>by simp only [execOp,hx,hy,Sem.run_bind,hr,Result.andThen_ok,Sem.run_pure]⟩
theorem yg_bin {g:Option (Nat×Bool)} (hw:Region.wanted ⟨dst,.binOp bo ty x y tz,t,pos,after,g⟩ (yielded ops a.tmps)=true) (hx:a.eval x=vx) (hy:a.eval y=vy) (hr:∀ w,((do eqGuard bo ty x y vx vy;binOp bo ty vx vy):Sem Value).run P w = .ok v w):Yields P ops ⟨dst,.binOp bo ty x y tz,t,pos,after,g⟩ v a:=
 .inl ⟨hw,fun w=>by simp only [execOp,hx,hy,Sem.run_bind (x:=(do eqGuard bo ty x y vx vy;binOp bo ty vx vy)),hr,Result.andThen_ok,Sem.run_pure]⟩
theorem yg_un {g:Option (Nat×Bool)} (hw:Region.wanted ⟨dst,.unOp uo ty x,t,pos,after,g⟩ (yielded ops a.tmps)=true) (hx:a.eval x=vx) (hr:∀ w,(Op.unary uo vx).run P w = .ok v w):Yields P ops ⟨dst,.unOp uo ty x,t,pos,after,g⟩ v a:=
 .inl ⟨hw,fun w=>by simp only [execOp,hx,Sem.run_bind,hr,Result.andThen_ok,Sem.run_pure]⟩
theorem yg_len {g:Option (Nat×Bool)} (hw:Region.wanted ⟨dst,.call { callee:= .builtin .len,args:=#[x],argTypes:=#[ty] },t,pos,after,g⟩ (yielded ops a.tmps)=true) (hx:a.eval x=vx) (hr:∀ w,(Builtin.len_ #[ty] t #[vx]).run P w = .ok v w):Yields P ops ⟨dst,.call { callee:= .builtin .len,args:=#[x],argTypes:=#[ty] },t,pos,after,g⟩ v a:=
 .inl ⟨hw,fun w=>by
  rw [execOp_builtin_len,hx]
  simp only [Sem.run_bind,hr,Result.andThen_ok,Sem.run_pure]⟩
theorem tg_load {g:Option (Nat×Bool)} (hw:Region.wanted ⟨dst,.load ty x,t,pos,after,g⟩ (yielded ops a.tmps)=true) (hx:a.eval x = .pointer (some ad)) (h1:oneB P ty=true) (hG:∀ w,G w→w.cell? ad=some v):YieldsIf P ops G ⟨dst,.load ty x,t,pos,after,g⟩ v a:=
 .inl ⟨hw,fun w hw=>by
  obtain ⟨b,o,el⟩:=ad
  have hc:=hG w hw
  simp only [execOp,hx,Instr.loadAt,Instr.sureAddr,Sem.run_bind,Sem.run_pure,Result.andThen_ok,run_load1A h1 hc]⟩
theorem yg_pick {g:Option (Nat×Bool)}{c:Bool} (hw:Region.wanted ⟨dst,.pick x y z,t,pos,after,g⟩ (yielded ops a.tmps)=true) (hx:a.eval x = .bool c) (hv:(if c then a.eval y else a.eval z)=v):Yields P ops ⟨dst,.pick x y z,t,pos,after,g⟩ v a:=
 .inl ⟨hw,fun w=>by
  subst hv
  simp only [execOp,hx]
  cases c <;> rfl⟩
theorem tg_loadN {g:Option (Nat×Bool)} (ks:List Value) (hw:Region.wanted ⟨dst,.load ty x,t,pos,after,g⟩ (yielded ops a.tmps)=true) (hx:a.eval x = .pointer (some ⟨b,o,none⟩)){d:TypeDesc} (hu:P.underlying ty=some d) (hd:d.isRow=true) (hi:(P.info? ty).map (·.size)=some ks.length) (hG:∀ w,G w→w.rangeAt b o ks) :
  YieldsIf P ops G ⟨dst,.load ty x,t,pos,after,g⟩ (.agg ks.toArray) a:=
 yieldsIf_load_mid hw ty x rfl b o hx ks d hG hu hd hi
theorem eg_call {g:Option (Nat×Bool)}{f:FuncId}{xs:Array Operand}{ts:Array TypeId}{K:Act→World→Prop}{E:Prop} (vs:List Value) (hw:Region.wanted ⟨dst,.call { callee:= .value (.func f),args:=xs,argTypes:=ts },t,pos,after,g⟩ (yielded ops a.tmps)=true) (hf:goB P f=true) (hv:xs.toList.map a.eval=vs)
  (h:Calls P f vs.toArray w (Upon K Q a dst)):if Region.wanted ⟨dst,.call { callee:= .value (.func f),args:=xs,argTypes:=ts },t,pos,after,g⟩ (yielded ops a.tmps)=true then
   Oper.wp P ⟨dst,.call { callee:= .value (.func f),args:=xs,argTypes:=ts },t,pos,after,g⟩ a w K Q else E:=by
 rw [if_pos hw]
 have h0:=eff_call (P:=P) (ops:=ops) (a:=a) (w:=w) (Q:=Q) (dst:=dst) (t:=t) (pos:=pos) (after:=after) (K:=K) (E:=False) (xs:=xs) (ts:=ts) vs hf hv h
 rw [if_pos (want_none _ rfl)]at h0
 exact h0
theorem rg_skip {l:Array Bool}{n:Nat}{late:List Nat}{oi:Oper} (i:Nat) (hi:ops.toList[i]?=some oi) (hc:(Region.noSelect ops && Region.free .any ops l i && (Region.ready .any ops l).contains i && shutB ops l)=true)
  (hQ:∀ c a w,Q (.panic c) (a.put oi.dst undef) w→Q (.panic c) a w) (hw:Region.wanted oi (yielded ops a.tmps)=false) {a':Act} (ha:a.put oi.dst undef=a')
  (h:wpL P ops Q late G n (l.setIfInBounds i true) a' w):wpL P ops Q late G (n+1) l a w:=
 rg_pure i hi hc hQ (.inr ⟨hw,rfl⟩) ha h
end
end Go.Proofs.YtjbhhbnopnmcnaaGreatDoor
namespace Go.Med
def Med.which (D:Med) (s:ByteArray):Int:=match nget D.now s with
 |none=> -1
 |some i=>(i:Int)
end Go.Med
namespace Go.Proofs.YtjbhhbnopnmcnaaGreatDoor
open Go Go.Sl Go.Med Go.MapKept Go.RowKit
abbrev Bag:=List (Value×Names)
structure RF where
 f:Fil
 fv:Value
 nv:Value
 wv:Value
 ws:List (Chg×Value)
section
variable {w0 w:World}{b o:Nat}{ops:Array Oper}{rest:List Oper}{a:Act}{Q:Exit→Act→World→Prop}{dst:Option Tmp}{t ty:TypeId}{pos:String}{after:Array Edge}{x:Operand}{P:Program}
end
section
variable {w0 w:World}{F R:List HProp}{d:Nat}{D:Med}{fsv fv nv wv v:Value}{xs:List RF}{g:Bag}{K:Nat}
theorem stars_mem:∀ (l:List HProp) (A:HProp),A∈l→∃ G,stars l=star A G
 |B::l,A,h=>by
  rcases List.mem_cons.1 h with rfl|h
  ·exact ⟨_,rfl⟩
  ·obtain ⟨G,hG⟩:=stars_mem l A h
   refine ⟨star B G,?_⟩
   show star B (stars l)=_
   rw [hG,star_left_comm]
end
section
variable {P:Program}{w0 w:World}{L L':List HProp}{b o:Nat}{ops:Array Oper}{a:Act}{Q:Exit→Act→World→Prop}{dst:Option Tmp}{t ty T:TypeId}{pos:String}{after:Array Edge}{x y:Operand}{cs:Array Value}{v:Value}{K:Act→World→Prop}{E:Prop}
theorem eff_store (hs:Sat w0 w L) (hx:a.eval x = .pointer (some ⟨b,o,none⟩)) (hy:a.eval y=v){cs':Array Value} (hcs:putsAt cs o v.cells.toList=cs') (u:Upd (pt b (.cells cs T (0,0))) (pt b (.cells cs' T (0,0))) L L') (hfit:o+v.cells.size≤cs.size)
  (hi:(P.info? ty).map (·.size)=some v.cells.size) (h1:v.cells.toList.all (·.oneCell')=true)
  (hK:∀ w',Sat w0 w' L'→K (a.put dst undef) w') :
  if Region.wanted ⟨dst,.store ty x y,t,pos,after,none⟩ (yielded ops a.tmps)=true then Oper.wp P ⟨dst,.store ty x y,t,pos,after,none⟩ a w K Q else E:=by
 subst hcs
 obtain ⟨R',h2,h3⟩:=u
 refine eff_of rfl ?_
 have h:=hs.perm h2
 have hth:w.there b o v.cells.size:=by
  intro j hj
  refine ⟨?_,h.freeAt _⟩
  rw [h.cellAt (o+j) _ (Array.getElem?_eq_getElem (show o+j<cs.size by omega))]
  rfl
 have hst:=run_storeCells_cells (P:=P) b o v.cells.toList 0 w (fun j hj=>by simpa using (hth j (by simpa using hj)).1) (fun j hj=>by simpa using (hth j (by simpa using hj)).2)
  (fun u hu=>(List.all_eq_true.1 h1) u hu)
 have hrun:(storeVar ty ⟨b,o,none⟩ v).run P w = .ok () (w.setCells b o v.cells.toList):=by
  cases hq:P.info? ty with
  |none=>simp [hq]at hi
  |some i=>
   have hs:v.cells.size=i.size:=by simp [hq]at hi;omega
   simp only [Nat.add_zero]at hst
   simp [storeVar,sizeOf,typeInfo,hq,hs,hst]
 unfold Oper.wp execOp
 simp only [hx,hy,Instr.storeAt,Instr.sureAddr,Sem.run_bind,Sem.run_pure,Result.andThen_ok,hrun]
 exact hK _ ((Sat.sets _ _ h).perm h3.symm)
end
def RF.zero:RF:=⟨Fil.new,.slice none 0 0,.slice none 0 0,.slice none 0 0,[]⟩
section
variable {w0 w:World}{F R:List HProp}{d:Nat}{D:Med}{fsv fv nv wv v lv:Value}{xs:List RF}{g:Bag}{K:Nat}
end
end Go.Proofs.YtjbhhbnopnmcnaaGreatDoor
namespace Go.Med
theorem xorAt_len (l:Bs) (i:Nat) (y:UInt8):(xorAt l i y).length=l.length:=by unfold xorAt;simp
def Alike (c d:Chg):Prop:=d.cut=c.cut∧d.n=c.n∧d.b.length=c.b.length
theorem on_len {c d:Chg} (h:Alike c d){l l':Bs} (hl:l'.length=l.length):(d.on l').length=(c.on l).length:=by
 obtain ⟨h1,h2,h3⟩:=h
 unfold Chg.on
 rw [h1]
 split
 ·simp [h2,hl]
 ·simp [h3,hl]
theorem at_len {f g:Fil} (h0:g.fast.length=f.fast.length) (hw:g.waits.length=f.waits.length)
  (hc:∀ (k:Nat) (c d:Chg),f.waits[k]?=some c→g.waits[k]?=some d→Alike c d):∀ k,k≤f.waits.length→(g.at k).length=(f.at k).length:=by
 intro k
 induction k with
 |zero=>intro _;exact h0
 |succ k ih=>
  intro hk
  have h1:f.waits[k]?=some (f.waits[k]'oQ):=List.getElem?_eq_getElem _
  have h2:g.waits[k]?=some (g.waits[k]'oQ):=List.getElem?_eq_getElem _
  rw [f.at_succ k _ h1,g.at_succ k _ h2]
  exact on_len (hc k _ _ h1 h2) (ih oQ)
theorem xorAt_left {l:Bs}{i:Nat} (y:UInt8) (b:Bs) (h:i<l.length):xorAt (l++b) i y=xorAt l i y++b:=by
 unfold xorAt
 rw [List.set_append_left _ _ h,List.getD_eq_getElem?_getD,List.getElem?_append_left h,List.getD_eq_getElem?_getD]
theorem xorAt_right {l:Bs}{i:Nat} (y:UInt8) (b:Bs) (h:l.length≤i):xorAt (l++b) i y=l++xorAt b (i - l.length) y:=by
 unfold xorAt
 rw [List.set_append_right _ _ h,List.getD_eq_getElem?_getD,List.getElem?_append_right h,List.getD_eq_getElem?_getD]
theorem xorAt_take (l:Bs) (i n:Nat) (y:UInt8):(xorAt l i y).take n=xorAt (l.take n) i y:=by
 unfold xorAt
 rw [List.take_set]
 by_cases h:i<n
 ·rw [List.getD_eq_getElem?_getD,List.getD_eq_getElem?_getD,List.getElem?_take_of_lt h]
 ·rw [List.set_eq_of_length_le (by simp;omega),List.set_eq_of_length_le (by simp;omega)]
theorem on_xor (c:Chg) (l:Bs) (i:Nat) (y:UInt8) (h:c.cut=true∨i<l.length):c.on (xorAt l i y)=xorAt (c.on l) i y:=by
 unfold Chg.on
 cases hc:c.cut
 ·simp only [Bool.false_eq_true,if_false]
  rcases h with h|h
  ·rw [hc]at h;cases h
  ·exact (xorAt_left y c.b h).symm
 ·simp only [if_true];exact xorAt_take l i c.n y
def Past (f:Fil) (i k n:Nat):Prop:=∀ (j:Nat) (c:Chg),k≤j→j<n→f.waits[j]?=some c→c.cut=true∨i<(f.at j).length
theorem at_xor {f g:Fil}{i k:Nat}{y:UInt8} (h0:g.at k=xorAt (f.at k) i y) (hw:∀ j,k≤j→g.waits[j]?=f.waits[j]?) (hp:Past f i k f.waits.length) :
  ∀ j,k≤j→j≤f.waits.length→g.at j=xorAt (f.at j) i y:=by
 intro j hj
 induction hj with
 |refl=>intro _;exact h0
 |@step j hk ih=>
  intro hl
  have h1:f.waits[j]?=some (f.waits[j]'oQ):=List.getElem?_eq_getElem _
  have h2:g.waits[j]?=some (f.waits[j]'oQ):=by rw [hw j hk];exact h1
  rw [f.at_succ j _ h1,g.at_succ j _ h2,ih oQ]
  exact on_xor _ _ _ _ (hp j _ hk oQ h1)
theorem rotWaits_spec (f:Fil) (i:Nat) (y:UInt8):∀ n,n≤f.waits.length →
  (rotWaits f i y n=none∧Past f i 0 n) ∨
  ∃ (k:Nat) (c:Chg),k<n∧f.waits[k]?=some c∧c.cut=false∧(f.at k).length≤i∧rotWaits f i y n=some (f.waits.set k { c with b:=xorAt c.b (i - (f.at k).length) y })∧Past f i (k+1) n
 |0,_=> .inl ⟨rfl,fun j c _ h=>by omega⟩
 |n+1,hn=>by
  have h1:f.waits[n]?=some (f.waits[n]'oQ):=List.getElem?_eq_getElem _
  generalize f.waits[n]'oQ=c at h1
  have step:(c.cut=true∨i<(f.at n).length)→rotWaits f i y (n+1)=rotWaits f i y n:=by
   intro h
   show (match f.waits[n]? with|none=>_|some c=>_)=_
   rw [h1]
   simp only
   rcases h with h|h
   ·rw [if_pos h]
   ·split
    ·rfl
    ·rw [if_neg oQ]
  have past:∀ k,(c.cut=true∨i<(f.at n).length)→Past f i k n→Past f i k (n+1):=by
   intro k h hp j d hk hj hd
   rcases Nat.lt_or_ge j n with hlt|hge
   ·exact hp j d hk hlt hd
   ·obtain rfl:j=n:=by omega
    rw [h1]at hd;cases hd;exact h
  by_cases h:c.cut=true∨i<(f.at n).length
  ·rcases rotWaits_spec f i y n oQ with ⟨h2,h3⟩|⟨k,d,h2,h3,h4,h5,h6,h7⟩
   ·exact .inl ⟨(step h).trans h2,past 0 h h3⟩
   ·exact .inr ⟨k,d,by omega,h3,h4,h5,(step h).trans h6,past _ h h7⟩
  ·have hc:c.cut=false:=by cases hcc:c.cut;rfl;exact absurd (.inl hcc) h
   have hl:(f.at n).length≤i:=Nat.le_of_not_lt fun h'=>h (.inr h')
   refine .inr ⟨n,c,by omega,h1,hc,hl,?_,fun j d hk hj=>by omega⟩
   show (match f.waits[n]? with|none=>_|some c=>_)=_
   rw [h1]
   simp only [hc,Bool.false_eq_true,if_false]
   rw [if_pos hl]
theorem rot_ok_of {f g:Fil}{K:Nat} (h:f.Ok K) (h0:g.fast.length=f.fast.length) (hw:g.waits.length=f.waits.length)
  (hc:∀ (k:Nat) (c d:Chg),f.waits[k]?=some c→g.waits[k]?=some d→Alike c d) (hn:g.now=g.at f.waits.length):g.Ok K:=by
 have hl:=at_len h0 hw hc
 refine ⟨by rw [hw];exact hn,?_,?_,by rw [hw];exact h.budget⟩
 ·intro k d hk hd
  have hlt:k<g.waits.length:=(List.getElem?_eq_some_iff.1 hk).1
  obtain ⟨c,hcc⟩:∃ c,f.waits[k]?=some c:=⟨f.waits[k]'oQ,List.getElem?_eq_getElem _⟩
  obtain ⟨a1,a2,a3⟩:=hc k c d hcc hk
  rw [hl k oQ,a2]
  exact h.cuts k c hcc (by rw [← a1];exact hd)
 ·intro k hk
  rw [hl k oQ]
  exact h.size k oQ
theorem Fil.Ok.rot {f:Fil}{K:Nat} (h:f.Ok K) (i:Nat) (y:UInt8):(f.rot i y).Ok K∧(f.rot i y).now=xorAt f.now i y:=by
 rcases rotWaits_spec f i y f.waits.length (Nat.le_refl _) with ⟨h1,h2⟩|⟨k,c,hk,hc,hcut,hlen,h1,h2⟩
 ·have e:f.rot i y={ f with now:=xorAt f.now i y,fast:=xorAt f.fast i y }:=by unfold Fil.rot;rw [h1]
  rw [e]
  refine ⟨rot_ok_of h (xorAt_len _ _ _) rfl (fun k c d h3 h4=>?_) ?_,rfl⟩
  ·rw [h3]at h4;cases h4;exact ⟨rfl,rfl,rfl⟩
  ·have:=at_xor (f:=f) (g:={ f with now:=xorAt f.now i y,fast:=xorAt f.fast i y }) (i:=i) (k:=0) (y:=y) rfl (fun j _=>rfl) h2 f.waits.length (Nat.zero_le _) (Nat.le_refl _)
   rw [this,← h.now]
 ·have e:f.rot i y={ f with now:=xorAt f.now i y,waits:=f.waits.set k { c with b:=xorAt c.b (i - (f.at k).length) y } }:=by unfold Fil.rot;rw [h1]
  rw [e]
  have hset:(f.waits.set k { c with b:=xorAt c.b (i - (f.at k).length) y })[k]?=some { c with b:=xorAt c.b (i - (f.at k).length) y }:=by rw [List.getElem?_set_self hk]
  refine ⟨rot_ok_of h rfl (by simp) (fun j c' d h3 h4=>?_) ?_,rfl⟩
  ·simp only at h4
   by_cases hj:k=j
   ·subst hj
    rw [hset]at h4
    rw [hc]at h3
    cases h3;cases h4
    exact ⟨rfl,rfl,xorAt_len _ _ _⟩
   ·rw [List.getElem?_set_ne hj,h3]at h4
    cases h4;exact ⟨rfl,rfl,rfl⟩
  ·generalize hg:({ f with now:=xorAt f.now i y,waits:=f.waits.set k { c with b:=xorAt c.b (i - (f.at k).length) y } }:Fil)=g
   have hgw:g.waits=f.waits.set k { c with b:=xorAt c.b (i - (f.at k).length) y }:=by rw [← hg]
   have hgf:g.fast=f.fast:=by rw [← hg]
   have hgn:g.now=xorAt f.now i y:=by rw [← hg]
   have hk0:g.at k=f.at k:=by unfold Fil.at;rw [hgw,hgf,List.take_set_of_le (Nat.le_refl _)]
   have hk1:g.at (k+1)=xorAt (f.at (k+1)) i y:=by
    rw [g.at_succ k _ (by rw [hgw];exact hset),hk0,f.at_succ k c hc]
    unfold Chg.on
    simp only [hcut,Bool.false_eq_true,if_false]
    rw [xorAt_right y c.b hlen]
   have:=at_xor hk1 (fun j hj=>by rw [hgw,List.getElem?_set_ne oQ]) h2 f.waits.length hk (Nat.le_refl _)
   rw [this,hgn,← h.now]
structure Cal where
 kind:Int
 name:ByteArray
 to:ByteArray
 n:Int
 m:Int
 b:Bs
 l:List Int
def lowByte (m:Int):UInt8:=UInt8.ofNat (m%256).toNat
def Med.does (M:Med) (x:Cal):Med×(Bs×Int×Bool):=
 if x.kind=0 then ((M.create x.name).1,[],(M.create x.name).2,false)
 else if x.kind=1 then ((M.append x.name x.b).1,[],(M.append x.name x.b).2,false)
 else if x.kind=2 then ((M.truncate x.name x.n).1,[],(M.truncate x.name x.n).2,false)
 else if x.kind=3 then ((M.rename x.name x.to).1,[],(M.rename x.name x.to).2,false)
 else if x.kind=4 then ((M.remove x.name).1,[],(M.remove x.name).2,false)
 else if x.kind=5 then ((M.sync x.name).1,[],(M.sync x.name).2,false)
 else if x.kind=6 then (M.syncDir.1,[],M.syncDir.2,false)
 else if x.kind=7 then ((M.arm x.n).1,[],(M.arm x.n).2,false)
 else if x.kind=8 then (M.crash x.l,[],0,false)
 else if x.kind=9 then ((M.setRoom x.n).1,[],(M.setRoom x.n).2,false)
 else if x.kind=10 then ((M.rot x.name x.n (lowByte x.m)).1,[],0,(M.rot x.name x.n (lowByte x.m)).2)
 else (M,(M.read x.name x.n x.m).1,(M.read x.name x.n x.m).2,false)
theorem Med.does_ind {P:Med×Bs×Int×Bool→Prop}{M:Med}{x:Cal}
  (h0:x.kind=0→P ((M.create x.name).1,[],(M.create x.name).2,false))
  (h1:x.kind=1→P ((M.append x.name x.b).1,[],(M.append x.name x.b).2,false))
  (h2:x.kind=2→P ((M.truncate x.name x.n).1,[],(M.truncate x.name x.n).2,false))
  (h3:x.kind=3→P ((M.rename x.name x.to).1,[],(M.rename x.name x.to).2,false))
  (h4:x.kind=4→P ((M.remove x.name).1,[],(M.remove x.name).2,false))
  (h5:x.kind=5→P ((M.sync x.name).1,[],(M.sync x.name).2,false))
  (h6:x.kind=6→P (M.syncDir.1,[],M.syncDir.2,false))
  (h7:x.kind=7→P ((M.arm x.n).1,[],(M.arm x.n).2,false))
  (h8:x.kind=8→P (M.crash x.l,[],0,false))
  (h9:x.kind=9→P ((M.setRoom x.n).1,[],(M.setRoom x.n).2,false))
  (h10:x.kind=10→P ((M.rot x.name x.n (lowByte x.m)).1,[],0,(M.rot x.name x.n (lowByte x.m)).2))
  (hz:x.kind≠0∧x.kind≠1∧x.kind≠2∧x.kind≠3∧x.kind≠4∧x.kind≠5∧x.kind≠6∧x.kind≠7∧x.kind≠8∧x.kind≠9∧x.kind≠10→P (M,(M.read x.name x.n x.m).1,(M.read x.name x.n x.m).2,false)):P (M.does x):=by
 unfold Med.does
 by_cases c0:x.kind=0;· rw [if_pos c0];exact h0 c0
 rw [if_neg c0]
 by_cases c1:x.kind=1;· rw [if_pos c1];exact h1 c1
 rw [if_neg c1]
 by_cases c2:x.kind=2;· rw [if_pos c2];exact h2 c2
 rw [if_neg c2]
 by_cases c3:x.kind=3;· rw [if_pos c3];exact h3 c3
 rw [if_neg c3]
 by_cases c4:x.kind=4;· rw [if_pos c4];exact h4 c4
 rw [if_neg c4]
 by_cases c5:x.kind=5;· rw [if_pos c5];exact h5 c5
 rw [if_neg c5]
 by_cases c6:x.kind=6;· rw [if_pos c6];exact h6 c6
 rw [if_neg c6]
 by_cases c7:x.kind=7;· rw [if_pos c7];exact h7 c7
 rw [if_neg c7]
 by_cases c8:x.kind=8;· rw [if_pos c8];exact h8 c8
 rw [if_neg c8]
 by_cases c9:x.kind=9;· rw [if_pos c9];exact h9 c9
 rw [if_neg c9]
 by_cases c10:x.kind=10;· rw [if_pos c10];exact h10 c10
 rw [if_neg c10]
 exact hz ⟨c0,c1,c2,c3,c4,c5,c6,c7,c8,c9,c10⟩
structure Quiet (M:Med):Prop where
 armed:M.armed=false
 off:M.off=false
 left:M.left=0
theorem Quiet.new (r:Nat):Quiet (new r):=⟨rfl,rfl,rfl⟩
theorem Quiet.step {M:Med} (h:Quiet M):M.step=(M,true):=by simp [Med.step,h.armed]
theorem Quiet.link {M:Med} (h:Quiet M) (x:Lnk):Quiet (M.link x):=⟨h.armed,h.off,h.left⟩
theorem Quiet.setFile {M:Med} (h:Quiet M) (i:Nat) (f:Fil):Quiet (M.setFile i f):=⟨h.armed,h.off,h.left⟩
theorem Quiet.create {M:Med} (h:Quiet M) (s:ByteArray):Quiet (M.create s).1:=by
 unfold Med.create
 rw [h.step]
 split;· exact h
 split;· exact h
 split;· exact h
 split;· exact h
 split;· exact h
 exact ⟨h.armed,h.off,h.left⟩
theorem Quiet.append {M:Med} (h:Quiet M) (s:ByteArray) (b:Bs):Quiet (M.append s b).1:=by
 unfold Med.append
 rw [h.step]
 split;· exact h
 split;· exact h
 split;· exact h
 split;· exact h
 exact h.setFile _ _
theorem Quiet.rename {M:Med} (h:Quiet M) (s t:ByteArray):Quiet (M.rename s t).1:=by
 unfold Med.rename
 rw [h.step]
 split;· exact h
 split;· exact h
 split;· exact h
 split;· exact h
 exact h.link _
theorem Quiet.remove {M:Med} (h:Quiet M) (s:ByteArray):Quiet (M.remove s).1:=by
 unfold Med.remove
 rw [h.step]
 split;· exact h
 split;· exact h
 split;· exact h
 exact h.link _
theorem Quiet.sync {M:Med} (h:Quiet M) (s:ByteArray):Quiet (M.sync s).1:=by
 unfold Med.sync
 rw [h.step]
 split;· exact h
 split;· exact h
 split;· exact h
 exact h.setFile _ _
theorem Quiet.syncDir {M:Med} (h:Quiet M):Quiet M.syncDir.1:=by
 unfold Med.syncDir
 rw [h.step]
 split;· exact h
 split;· exact h
 exact ⟨h.armed,h.off,h.left⟩
theorem Quiet.sync_eq {M:Med} (h:Quiet M){s:ByteArray}{i:Nat} (hs:nget M.now s=some i):M.sync s=(M.setFile i (M.file i).sync,0):=by
 unfold Med.sync
 rw [h.step,h.off,hs]
 rfl
theorem file_set {M:Med}{i:Nat}{f:Fil} (hi:i<M.files.length) (j:Nat):(M.setFile i f).file j=if j=i then f else M.file j:=by
 unfold Med.setFile Med.file
 simp only [List.getD_eq_getElem?_getD]
 split
 ·rename_i h;subst h;rw [List.getElem?_set_self hi];rfl
 ·rename_i h;rw [List.getElem?_set_ne (Ne.symm h)]
theorem Quiet.syncDir_eq {M:Med} (h:Quiet M):M.syncDir=({ M with fast:=M.now,waits:=[] },0):=by
 unfold Med.syncDir
 rw [h.step,if_neg (by rw [h.off];exact Bool.false_ne_true)]
 simp
theorem Quiet.list {M:Med} (h:Quiet M):M.list=M.now.map (·.1):=by unfold Med.list;rw [h.off];rfl
def Dst (M:Med):Prop:=(M.now.map (·.2)).Nodup
theorem used_split {M:Med} (hs:Srt M.now) (hd:Dst M){s:ByteArray}{i:Nat} (h:nget M.now s=some i) :
  (∀ p∈ndel M.now s,p.2≠i)∧∀ g:Nat→Nat,(M.now.map fun p=>g p.2).sum=g i+((ndel M.now s).map fun p=>g p.2).sum:=by
 have hp:=ndel_perm hs.keys (nget_mem h)
 constructor
 ·have hd':(M.now.map fun p:ByteArray×Nat=>p.2).Nodup:=hd
  have:=(hp.map (fun p:ByteArray×Nat=>p.2)).nodup_iff.1 hd'
  simp only [List.map_cons,List.nodup_cons]at this
  intro p hp e
  exact this.1 (List.mem_map.2 ⟨p,hp,e⟩)
 ·intro g
  have:=(hp.map fun p=>g p.2).sum_nat
  simpa using this
theorem sum_congr {l:Names}{g h:Nat→Nat} (e:∀ p∈l,g p.2=h p.2):(l.map fun p=>g p.2).sum=(l.map fun p=>h p.2).sum:=by
 rw [List.map_congr_left e]
theorem used_set {M:Med}{K:Nat} (ok:M.Ok K) (hd:Dst M){s:ByteArray}{i:Nat} (h:nget M.now s=some i) (f:Fil) :
  (M.setFile i f).used+(M.file i).now.length=M.used+f.now.length:=by
 obtain ⟨h1,h2⟩:=used_split ok.nowOk.srt hd h
 have hi:i<M.files.length:=ok.nowOk.ids _ (nget_mem h)
 have e1:=h2 fun j=>(M.file j).now.length
 have e2:=h2 fun j=>((M.setFile i f).file j).now.length
 have e3:((ndel M.now s).map fun p=>((M.setFile i f).file p.2).now.length).sum=((ndel M.now s).map fun p=>(M.file p.2).now.length).sum:=
  sum_congr (g:=fun j=>((M.setFile i f).file j).now.length) (h:=fun j=>(M.file j).now.length) fun p hp=>by rw [file_set hi,if_neg (h1 p hp)]
 have e4:(M.setFile i f).file i=f:=by rw [file_set hi,if_pos rfl]
 simp only [e4,e3]at e2
 show (M.now.map fun p=>((M.setFile i f).file p.2).now.length).sum+_=(M.now.map fun p=>(M.file p.2).now.length).sum+_
 rw [e1,e2]
 omega
theorem sum_del_le (l:Names) (s:ByteArray) (g:Nat→Nat):((ndel l s).map fun p=>g p.2).sum≤(l.map fun p=>g p.2).sum:=by
 induction l with
 |nil=>exact Nat.le_refl _
 |cons p l ih=>
  unfold ndel at ih ⊢
  rw [List.filter_cons]
  split
  ·simp only [List.map_cons,List.sum_cons];omega
  ·simp only [List.map_cons,List.sum_cons];omega
theorem sum_put (l:Names) (s:ByteArray) (i:Nat) (g:Nat→Nat):((nput l s i).map fun p=>g p.2).sum=g i+((ndel l s).map fun p=>g p.2).sum:=by
 have:=((nput_perm l s i).map fun p=>g p.2).sum_nat
 simpa using this
theorem nodup_put {l:Names}{s:ByteArray}{i:Nat} (h:(l.map (·.2)).Nodup) (hi:∀ p∈l,p.2≠i):((nput l s i).map (·.2)).Nodup:=by
 refine ((nput_perm l s i).map (·.2)).nodup_iff.2 ?_
 simp only [List.map_cons,List.nodup_cons]
 refine ⟨fun hm=>?_,h.sublist (List.filter_sublist.map _)⟩
 obtain ⟨p,hp,e⟩:=List.mem_map.1 hm
 exact hi p (List.mem_filter.1 hp).1 e
structure Fits (M M':Med):Prop where
 room:M'.room=M.room
 dst:Dst M'
 used:M'.used≤M'.room
theorem step_alike (M:Med):M.step.1.room=M.room∧M.step.1.now=M.now∧M.step.1.files=M.files:=⟨M.step_same.1,M.step_same.2.2.1,M.step_same.2.2.2.1⟩
theorem Fits.self {M:Med} (hd:Dst M) (hu:M.used≤M.room):Fits M M:=⟨rfl,hd,hu⟩
theorem used_of {M M':Med} (h1:M'.now=M.now) (h2:M'.files=M.files):M'.used=M.used:=by unfold Med.used Med.file;rw [h1,h2]
theorem Fits.alike {M M':Med} (hd:Dst M) (hu:M.used≤M.room) (hr:M'.room=M.room) (h1:M'.now=M.now) (h2:M'.files=M.files):Fits M M':=
 ⟨hr,by unfold Dst;rw [h1];exact hd,by rw [used_of h1 h2,hr];exact hu⟩
theorem Fits.set {M M':Med}{K:Nat} (ok:M.Ok K) (hd:Dst M) (hu:M.used≤M.room) (hr:M'.room=M.room) (h1:M'.now=M.now) (h2:M'.files=M.files){s:ByteArray}{i:Nat} (h:nget M.now s=some i) (f:Fil)
  (hf:M.used+f.now.length≤M.room+(M.file i).now.length):Fits M (M'.setFile i f):=by
 have e:(M'.setFile i f).used=(M.setFile i f).used:=used_of (by exact h1) (by show M'.files.set i f=M.files.set i f;rw [h2])
 have:=used_set ok hd h f
 refine ⟨hr,by show (M'.now.map (·.2)).Nodup;rw [h1];exact hd,?_⟩
 rw [e]
 show _≤M'.room
 rw [hr]
 omega
theorem Fits.does {M:Med}{K:Nat} (ok:M.Ok K) (hd:Dst M) (hu:M.used≤M.room) (x:Cal) (h8:x.kind≠8) (h9:x.kind≠9) :
  Fits M (M.does x).1∧((M.does x).2.2.1=11→x.kind=1∧M.room<M.usedTold+x.b.length):=by
 have r:=Fits.self hd hu
 obtain ⟨s1,s2,s3⟩:=step_alike M
 have rs:Fits M M.step.1:=Fits.alike hd hu s1 s2 s3
 refine Med.does_ind (P:=fun q=>Fits M q.1∧(q.2.2.1=11→x.kind=1∧M.room<M.usedTold+x.b.length)) ?_ ?_ ?_ ?_ ?_ ?_ ?_ ?_ ?_ ?_ ?_ ?_
 ·intro _
  show Fits M (M.create x.name).1∧((M.create x.name).2=11→_)
  unfold Med.create
  split;· exact ⟨r,by simp⟩
  split;· exact ⟨r,by simp⟩
  rename_i hg
  split;· exact ⟨r,by simp⟩
  rename_i hn
  split;· exact ⟨r,by simp⟩
  split;· exact ⟨rs,by simp⟩
  refine ⟨?_,by simp⟩
  have hnn:nget M.now x.name=none:=by simpa using hn
  have hlt:=ok.nowOk.ids
  have hne:x.name≠ByteArray.empty:=good_ne (by simpa using hg)
  have enow:(({ M.step.1 with files:=M.files++[Fil.new] }:Med).link ⟨ByteArray.empty,x.name,M.files.length⟩).now=nput M.now x.name M.files.length:=by
   show Lnk.on _ M.step.1.now=_
   rw [s2]
   unfold Lnk.on
   simp only [if_true,if_neg hne]
  have hdel:=ndel_none hnn
  refine ⟨s1,?_,?_⟩
  ·unfold Dst
   rw [enow]
   exact nodup_put hd fun p hp e=>by have:=hlt p hp;omega
  ·have:(({ M.step.1 with files:=M.files++[Fil.new] }:Med).link ⟨ByteArray.empty,x.name,M.files.length⟩).used=M.used:=by
    show ((Med.now _).map fun p=>(Med.file _ p.2).now.length).sum=_
    rw [enow,sum_put _ _ _ (fun j=>(Med.file _ j).now.length),hdel]
    have e0:((({ M.step.1 with files:=M.files++[Fil.new] }:Med).link ⟨ByteArray.empty,x.name,M.files.length⟩).file M.files.length).now.length=0:=by
     simp [Med.file,Med.link,Fil.new]
    rw [e0,Nat.zero_add]
    refine sum_congr (g:=fun j=>(Med.file _ j).now.length) (h:=fun j=>(M.file j).now.length) fun p hp=>?_
    have:=hlt p hp
    simp only [Med.file,Med.link,List.getD_eq_getElem?_getD]
    rw [List.getElem?_append_left this]
   rw [this]
   show _≤M.step.1.room
   rw [s1];exact hu
 ·intro hk1
  show Fits M (M.append x.name x.b).1∧((M.append x.name x.b).2=11→_)
  unfold Med.append
  split;· exact ⟨r,by simp⟩
  rename_i hoff
  split;· exact ⟨r,by simp⟩
  rename_i i hi
  split
  ·rename_i hfull
   refine ⟨r,fun _=>⟨hk1,?_⟩⟩
   have:M.usedTold=M.used:=by unfold Med.usedTold;rw [if_neg hoff]
   rw [this];omega
  rename_i hfull
  split;· exact ⟨rs,by simp⟩
  refine ⟨Fits.set ok hd hu s1 s2 s3 hi _ ?_,by simp⟩
  simp only [Fil.do,Chg.on,Bool.false_eq_true,if_false,List.length_append]
  omega
 ·intro _
  show Fits M (M.truncate x.name x.n).1∧((M.truncate x.name x.n).2=11→_)
  unfold Med.truncate
  split;· exact ⟨r,by simp⟩
  split;· exact ⟨r,by simp⟩
  rename_i i hi
  split;· exact ⟨r,by simp⟩
  split;· exact ⟨rs,by simp⟩
  refine ⟨Fits.set ok hd hu s1 s2 s3 hi _ ?_,by simp⟩
  simp only [Fil.do,Chg.on,if_true,List.length_take]
  omega
 ·intro _
  show Fits M (M.rename x.name x.to).1∧((M.rename x.name x.to).2=11→_)
  unfold Med.rename
  split;· exact ⟨r,by simp⟩
  split;· exact ⟨r,by simp⟩
  rename_i i hi
  split;· exact ⟨r,by simp⟩
  rename_i hg
  split;· exact ⟨rs,by simp⟩
  refine ⟨?_,by simp⟩
  have hne:x.to≠ByteArray.empty:=good_ne (by simpa using hg)
  have hs:x.name≠ByteArray.empty:=ok.nowOk.ne _ (nget_mem hi)
  obtain ⟨h1,h2⟩:=used_split ok.nowOk.srt hd hi
  have enow:(M.step.1.link ⟨x.name,x.to,i⟩).now=nput (ndel M.now x.name) x.to i:=by
   show Lnk.on _ M.step.1.now=_
   rw [s2]
   unfold Lnk.on
   simp only [if_neg hs,if_neg hne]
  refine ⟨s1,?_,?_⟩
  ·unfold Dst
   rw [enow]
   exact nodup_put (hd.sublist (List.filter_sublist.map _)) h1
  ·have e1:=h2 fun j=>(M.file j).now.length
   have e2:=sum_del_le (ndel M.now x.name) x.to fun j=>(M.file j).now.length
   have:(M.step.1.link ⟨x.name,x.to,i⟩).used=((nput (ndel M.now x.name) x.to i).map fun p=>(M.file p.2).now.length).sum:=by
    show ((Med.now _).map fun p=>(Med.file _ p.2).now.length).sum=_
    rw [enow]
    unfold Med.file Med.link
    simp only [s3]
   rw [this,sum_put _ _ _ (fun j=>(M.file j).now.length)]
   show _≤M.step.1.room
   rw [s1]
   unfold Med.used at hu
   omega
 ·intro _
  show Fits M (M.remove x.name).1∧((M.remove x.name).2=11→_)
  unfold Med.remove
  split;· exact ⟨r,by simp⟩
  split;· exact ⟨r,by simp⟩
  rename_i i hi
  split;· exact ⟨rs,by simp⟩
  refine ⟨?_,by simp⟩
  have hs:x.name≠ByteArray.empty:=ok.nowOk.ne _ (nget_mem hi)
  have enow:(M.step.1.link ⟨x.name,ByteArray.empty,0⟩).now=ndel M.now x.name:=by
   show Lnk.on ⟨x.name,ByteArray.empty,0⟩ M.step.1.now=_
   rw [s2]
   unfold Lnk.on
   simp only [if_neg hs,if_true]
  refine ⟨s1,?_,?_⟩
  ·unfold Dst
   rw [enow]
   exact hd.sublist (List.filter_sublist.map _)
  ·have e2:=sum_del_le M.now x.name fun j=>(M.file j).now.length
   have:(M.step.1.link ⟨x.name,ByteArray.empty,0⟩).used=((ndel M.now x.name).map fun p=>(M.file p.2).now.length).sum:=by
    show ((Med.now _).map fun p=>(Med.file _ p.2).now.length).sum=_
    rw [enow]
    unfold Med.file Med.link
    simp only [s3]
   rw [this]
   show _≤M.step.1.room
   rw [s1]
   unfold Med.used at hu
   omega
 ·intro _
  show Fits M (M.sync x.name).1∧((M.sync x.name).2=11→_)
  unfold Med.sync
  split;· exact ⟨r,by simp⟩
  split;· exact ⟨r,by simp⟩
  rename_i i hi
  split;· exact ⟨rs,by simp⟩
  refine ⟨Fits.set ok hd hu s1 s2 s3 hi _ ?_,by simp⟩
  simp only [Fil.sync]
  omega
 ·intro _
  show Fits M M.syncDir.1∧(M.syncDir.2=11→_)
  unfold Med.syncDir
  split;· exact ⟨r,by simp⟩
  split;· exact ⟨rs,by simp⟩
  exact ⟨Fits.alike hd hu s1 s2 s3,by simp⟩
 ·intro _
  show Fits M (M.arm x.n).1∧((M.arm x.n).2=11→_)
  unfold Med.arm
  split;· exact ⟨r,by simp⟩
  split;· exact ⟨r,by simp⟩
  exact ⟨Fits.alike hd hu rfl rfl rfl,by simp⟩
 ·exact fun h=>absurd h h8
 ·exact fun h=>absurd h h9
 ·intro _
  refine ⟨?_,fun h=>by simp at h⟩
  show Fits M (M.rot x.name x.n (lowByte x.m)).1
  unfold Med.rot
  split;· exact r
  rename_i i hi
  split;· exact r
  refine Fits.set ok hd hu rfl rfl rfl hi _ ?_
  rw [((ok.file i).rot _ _).2,xorAt_len]
  omega
 ·intro _
  refine ⟨r,fun h=>?_⟩
  exfalso
  have h':(M.read x.name x.n x.m).2=11:=h
  unfold Med.read at h'
  revert h'
  split
  ·simp
  split
  ·simp
  simp only
  split
  ·simp
  split
  ·simp
  ·simp
def Med.rmove (m:Med) (s t:ByteArray) (gone:Bool):Med×Int:=
 if m.off then (m,12)
 else match nget m.now s with
 |none=>(m,9)
 |some i=>
  if gone=false∧good t=false then (m,7)
  else if m.step.2=false then (m.step.1,12)
  else (m.step.1.link ⟨s,if gone then ByteArray.empty else t,i⟩,0)
def Med.rfile (D:Med) (l:List Int) (i:Nat) (p:ByteArray×Nat):Fil:=(D.file p.2).crash (num l (2 * i+1)) (num l (2 * i+2))
def Med.rcrash (D:Med) (l:List Int):Med:=
 let ns:=D.lastNames (clampN (num l 0) D.waits.length)
 { D with fast:=ns.mapIdx fun i p=>(p.1,i),now:=ns.mapIdx fun i p=>(p.1,i),waits:=[],files:=ns.mapIdx (D.rfile l),off:=false,armed:=false,left:=0 }
def Med.told (D:Med) (x:Cal):Med×(Bs×Int×Bool):=
 if x.kind=0 then ((D.create x.name).1,[],(D.create x.name).2,false)
 else if x.kind=1 then ((D.append x.name x.b).1,[],(D.append x.name x.b).2,false)
 else if x.kind=2 then ((D.truncate x.name x.n).1,[],(D.truncate x.name x.n).2,false)
 else if x.kind=3 then ((D.rmove x.name x.to false).1,[],(D.rmove x.name x.to false).2,false)
 else if x.kind=4 then ((D.rmove x.name ByteArray.empty true).1,[],(D.rmove x.name ByteArray.empty true).2,false)
 else if x.kind=5 then ((D.sync x.name).1,[],(D.sync x.name).2,false)
 else if x.kind=6 then (D.syncDir.1,[],D.syncDir.2,false)
 else if x.kind=7 then ((D.arm x.n).1,[],(D.arm x.n).2,false)
 else if x.kind=8 then (D.rcrash x.l,[],0,false)
 else if x.kind=9 then ((D.setRoom x.n).1,[],(D.setRoom x.n).2,false)
 else if x.kind=10 then ((D.rot x.name x.n (lowByte x.m)).1,[],0,(D.rot x.name x.n (lowByte x.m)).2)
 else (D,(D.read x.name x.n x.m).1,(D.read x.name x.n x.m).2,false)
def ren (φ:Nat→Nat) (l:Names):Names:=l.map fun p=>(p.1,φ p.2)
structure Side (φ:Nat→Nat) (L:Nat→Prop) (M D:Med):Prop where
 room:D.room=M.room
 armed:D.armed=M.armed
 left:D.left=M.left
 off:D.off=M.off
 wl:D.waits.length=M.waits.length
 now:D.now=ren φ M.now
 names:∀ k,k≤M.waits.length→D.lastNames k=ren φ (M.lastNames k)
 live:∀ k,k≤M.waits.length→∀ p∈M.lastNames k,L p.2
 once:∀ k,k≤M.waits.length→((M.lastNames k).map (·.2)).Nodup
 inj:∀ i j,L i→L j→φ i=φ j→i=j
 file:∀ i,L i→D.file (φ i)=M.file i
 lt:∀ i,L i→φ i<D.files.length
 ml:∀ i,L i→i<M.files.length
section
variable {φ:Nat→Nat}{L:Nat→Prop}{M D:Med}{K:Nat}
end
section
variable {φ:Nat→Nat}{L:Nat→Prop}{M D:Med}{K:Nat}
def Both (r q:Med×Int):Prop:=r.2=q.2∧∃ φ L,Side φ L r.1 q.1
end
def Fil.Small (f:Fil):Prop:=∀ c∈f.waits,c.b.length≤16777216
def Med.Small (m:Med):Prop:=∀ f∈m.files,f.Small
end Go.Med
namespace Go.Proofs.YtjbhhbnopnmcnaaGreatDoor
open Go Go.Sl Go.Med Go.MapKept Go.RowKit
def putL (xs:List Value) (i:Nat) (vs:List Value):List Value:=xs.take i++(vs++xs.drop (i+vs.length))
theorem putL_app (A B vs:List Value) (i:Nat):putL (A++B) (A.length+i) vs=A++putL B i vs:=by
 unfold putL
 rw [List.take_length_add_append,Nat.add_assoc,List.drop_length_add_append,List.append_assoc]
theorem putL_len {xs vs:List Value}{i:Nat} (h:i+vs.length≤xs.length):(putL xs i vs).length=xs.length:=by
 unfold putL
 simp only [List.length_append,List.length_take,List.length_drop];omega
section
variable {P:Program}{w0 w:World}{L L':List HProp}{b o:Nat}{ops:Array Oper}{rest:List Oper}{a:Act}{Q:Exit→Act→World→Prop}{dst:Option Tmp}{t ty T sz n c:Nat}{pos:String}{after:Array Edge}{x y:Operand}{v:Value}{xs vs:List Value}{K:Act→World→Prop}{E:Prop}
theorem putsAt_take {cs:Array Value}{i m:Nat} (hx:cs.toList.take m=xs) (hm:m≤cs.size) (hi:i+vs.length≤m):(putsAt cs i vs).toList.take m=putL xs i vs:=by
 subst hx
 rw [putsAt_list _ _ _ oQ]
 have hl:(cs.toList.take i++vs).length=i+vs.length:=by rw [List.length_append,List.length_take,Array.length_toList];omega
 unfold putL
 rw [List.take_append,hl,List.take_of_length_le oQ,List.take_take,Nat.min_eq_left oQ,List.drop_take,List.append_assoc]
theorem wl_storeSN (i:Nat) (hs:Sat w0 w L) (hx:a.eval x = .pointer (some ⟨b,i,none⟩)) (hy:a.eval y=v) (hv:v.cells.toList=vs) (u:Upd (osl T sz (.slice (some ⟨b,0,none⟩) n c) xs) (osl T sz (.slice (some ⟨b,0,none⟩) n c) (putL xs i vs)) L L')
  (hi:i+vs.length≤xs.length) (hty:(P.info? ty).map (·.size)=some vs.length) (h1:vs.all (·.oneCell')=true)
  (hK:∀ w',Sat w0 w' L'→wpList P ops Q rest (a.put dst undef) w'):wpList P ops Q (⟨dst,.store ty x y,t,pos,after,none⟩::rest) a w:=by
 have hvs:v.cells.size=vs.length:=by rw [← hv,Array.length_toList]
 obtain ⟨R',h2,h3⟩:=u
 have h:=hs.perm h2
 rcases Sat.osl_cases h with ⟨he,_⟩|⟨g',n',cap',cs,he,k1,k2,k3,k4,k5,k6⟩
 ·cases he
 ·cases he
  have hlen:xs.length≤cs.size:=by rw [← k5,List.length_take,Array.length_toList];omega
  have hm:n * sz≤cs.size:=Nat.le_trans (Nat.mul_le_mul_right _ k2) k3
  refine wpList_store_sat rfl ty x y rfl i v hx hy (by rw [hvs];omega) (by rw [hvs];exact hty) (by rw [← Array.all_toList,hv];exact h1) k6 fun w' hS=>hK w' (Sat.perm ?_ h3.symm)
  refine Sat.osl_of_pt hS (by rw [putL_len hi];exact k1) k2 (by rw [putsAt_size];exact k3) k4 ?_
  rw [hv]
  exact putsAt_take k5 hm (by rw [← k1];exact hi)
theorem eff_storeSN (i:Nat) (hs:Sat w0 w L) (hx:a.eval x = .pointer (some ⟨b,i,none⟩)) (hy:a.eval y=v) (hv:v.cells.toList=vs) (u:Upd (osl T sz (.slice (some ⟨b,0,none⟩) n c) xs) (osl T sz (.slice (some ⟨b,0,none⟩) n c) (putL xs i vs)) L L')
  (hi:i+vs.length≤xs.length) (hty:(P.info? ty).map (·.size)=some vs.length) (h1:vs.all (·.oneCell')=true)
  (hK:∀ w',Sat w0 w' L'→K (a.put dst undef) w') :
  if Region.wanted ⟨dst,.store ty x y,t,pos,after,none⟩ (yielded ops a.tmps)=true then Oper.wp P ⟨dst,.store ty x y,t,pos,after,none⟩ a w K Q else E:=by
 have hvs:v.cells.size=vs.length:=by rw [← hv,Array.length_toList]
 obtain ⟨R',h2,h3⟩:=u
 have h:=hs.perm h2
 rcases Sat.osl_cases h with ⟨he,_⟩|⟨g',n',cap',cs,he,k1,k2,k3,k4,k5,k6⟩
 ·cases he
 ·cases he
  have hlen:xs.length≤cs.size:=by rw [← k5,List.length_take,Array.length_toList];omega
  have hm:n * sz≤cs.size:=Nat.le_trans (Nat.mul_le_mul_right _ k2) k3
  refine eff_store k6 hx hy (cs':=putsAt cs i vs) (by rw [hv]) upd0 (by rw [hvs];omega) (by rw [hvs];exact hty) (by rw [hv];exact h1) fun w' hS=>hK w' (Sat.perm ?_ h3.symm)
  refine Sat.osl_of_pt hS (by rw [putL_len hi];exact k1) k2 (by rw [putsAt_size];exact k3) k4 ?_
  exact putsAt_take k5 hm (by rw [← k1];exact hi)
end
section
variable {α:Type}{f:α→List Value}{k:Nat}
theorem rows_len:∀ {l:List α},(∀ x∈l,(f x).length=k)→(l.flatMap f).length=k * l.length
 |[],_=>rfl
 |x::l,h=>by rw [List.flatMap_cons,List.length_append,h x (.head _),rows_len fun y hy=>h y (.tail _ hy),List.length_cons,Nat.mul_succ];omega
theorem rows_at:∀ {l:List α}{i:Nat}{x:α}{j:Nat}{v:Value},(∀ x∈l,(f x).length=k)→l[i]?=some x→(f x)[j]?=some v→(l.flatMap f)[i * k+j]?=some v
 |[],_,_,_,_,_,h,_=>by cases h
 |y::l,0,x,j,v,hk,h,hj=>by
  obtain rfl:y=x:=by simpa using h
  rw [List.flatMap_cons,Nat.zero_mul,Nat.zero_add,List.getElem?_append_left (List.getElem?_eq_some_iff.1 hj).1];exact hj
 |y::l,i+1,x,j,v,hk,h,hj=>by
  have h0:=hk y (.head _)
  rw [List.flatMap_cons,Nat.succ_mul,List.getElem?_append_right oQ,h0,show i * k+k+j - k=i * k+j by omega]
  exact rows_at (fun z hz=>hk z (.tail _ hz)) (by simpa using h) hj
theorem rows_set:∀ {l:List α}{i:Nat}{x:α},(∀ x∈l,(f x).length=k)→(f x).length=k→i<l.length→(l.set i x).flatMap f=putL (l.flatMap f) (i * k) (f x)
 |[],_,_,_,_,h=>by simp at h
 |y::l,0,x,hk,hx,h=>by
  have h0:=hk y (.head _)
  rw [List.set_cons_zero,List.flatMap_cons,List.flatMap_cons]
  unfold putL
  rw [Nat.zero_mul,List.take_zero,List.nil_append,Nat.zero_add,hx,← h0,List.drop_left]
 |y::l,i+1,x,hk,hx,h=>by
  have h0:=hk y (.head _)
  rw [List.set_cons_succ,List.flatMap_cons,List.flatMap_cons,rows_set (fun z hz=>hk z (.tail _ hz)) hx (by simpa using h),Nat.succ_mul,Nat.add_comm (i * k) k,← h0,putL_app]
theorem rows_rep (n:Nat) (x:α):(List.replicate n x).flatMap f=(List.replicate n (f x)).flatten:=by
 induction n with
 |zero=>rfl
 |succ n ih=>rw [List.replicate_succ,List.flatMap_cons,ih,List.replicate_succ,List.flatten_cons]
end
section
variable {w0 w:World}{F R:List HProp}{α:Type}{f:α→List Value}{k:Nat}{T:TypeId}{v:Value}
theorem osl_row {l:List α}{i:Nat}{x:α} (hk:∀ x∈l,(f x).length=k) (h:rdsl k v (l.flatMap f) w) (hi:l[i]?=some x) (h0:0<k) :
  ∃ bk off c,v = .slice (some ⟨bk,off,none⟩) l.length c∧∀ j y,(f x)[j]?=some y→w.cell? ⟨bk,off+i * k+j,none⟩=some y:=by
 obtain ⟨a,n,c,rfl,hl,hx⟩:=id h
 rw [rows_len hk]at hl
 have hfx:=hk x (List.mem_of_getElem? hi)
 obtain rfl:n=l.length:=by
  rw [Nat.mul_comm]at hl
  exact (Nat.eq_of_mul_eq_mul_right h0 hl).symm
 obtain ⟨y0,hy0⟩:∃ y,(f x)[0]?=some y:=⟨_,List.getElem?_eq_getElem oQ⟩
 have h1:=rows_at hk hi hy0
 obtain ⟨bk,off,rfl,hc⟩:=rdsl_cells h h1
 exact ⟨bk,off,c,rfl,fun j y hj=>by rw [Nat.add_assoc];exact hc _ _ (rows_at hk hi hj)⟩
theorem osl_rows {l:List α} (hk:∀ x∈l,(f x).length=k) (h:rdsl k v (l.flatMap f) w) (h0:0<k):∃ a c,v = .slice a l.length c:=by
 obtain ⟨a,n,c,rfl,hl,hx⟩:=id h
 rw [rows_len hk,Nat.mul_comm]at hl
 exact ⟨a,c,by rw [Nat.eq_of_mul_eq_mul_right h0 hl]⟩
end
theorem and_mask (x j:Nat) (hx:x<9223372036854775808) (hj:j<63):bits .and .i64 (x:Int) ((2^j - 1:Nat):Int)=((x%2^j:Nat):Int):=by
 have h2:2^j≤2^62:=Nat.pow_le_pow_right dCz oQ
 have h3:(2:Nat)^62=4611686018427387904:=by decide
 have h4:0<2^j:=Nat.two_pow_pos j
 have hm:(BitVec.ofInt 64 ((2^j - 1:Nat):Int)).toNat=2^j - 1:=by
  rw [BitVec.toNat_ofInt]
  have:((2^64:Nat):Int)=18446744073709551616:=by decide
  rw [this]
  omega
 have hn:(BitVec.ofInt 64 (x:Int)).toNat=x:=by
  rw [BitVec.toNat_ofInt]
  have:((2^64:Nat):Int)=18446744073709551616:=by decide
  rw [this]
  omega
 show IntKind.i64.wrap ((BitVec.ofInt 64 (x:Int) &&& BitVec.ofInt 64 ((2^j - 1:Nat):Int)).toNat:Nat)=_
 rw [BitVec.toNat_and,hm,hn,Nat.and_two_pow_sub_one_eq_mod,IntKind.wrap_i64]
 have:=Nat.mod_lt x h4
 omega
theorem or_num32 (l:Bs) (c:UInt8) (k:Nat) (hl:l.length=k) (hk:k<4):bits .or .u32 ((Frm.num l:Nat):Int) ((c.toNat:Int) * ((256^k:Nat):Int))=((Frm.num (l++[c]):Nat):Int):=by
 subst hl
 have h1:=Frm.num_lt l
 have h2:=c.toNat_lt
 have h3:256^l.length≤256^3:=Nat.pow_le_pow_right dCz oQ
 have h4:c.toNat * 256^l.length≤255 * 256^3:=Nat.mul_le_mul oQ h3
 have h5:(256:Nat)^3=16777216:=by decide
 have e:(c.toNat:Int) * ((256^l.length:Nat):Int)=((c.toNat * 256^l.length:Nat):Int):=by rw [Int.natCast_mul]
 rw [e,u32_or_nat _ _ oQ oQ,Frm.num_snoc]
 congr 1
 have hp:(256:Nat)^l.length=2^(8 * l.length):=by rw [Nat.pow_mul]
 rw [hp]at h1 ⊢
 have:=Nat.two_pow_add_eq_or_of_lt h1 c.toNat
 rw [Nat.or_comm,Nat.mul_comm c.toNat,← this,Nat.add_comm]
section
variable {w0 w:World}{F R:List HProp}
set_option maxRecDepth 20000 in
theorem home_c (k:Bs) (hk:k.length=32) (j:Nat) (hj:j<40) (h:Sat w0 w F) :
  Calls Tryz.prog 120 #[.agg (bys k).toArray,.int .i64 (2^j:Nat)] w (Rtn fun v w'=>v = .int .i64 (Tab.home k (2^j):Nat)∧Sat w0 w' F):=by
 obtain ⟨c0,c1,c2,c3,t,rfl⟩:∃ c0 c1 c2 c3 t,k=c0::c1::c2::c3::t:=by
  match k,hk with
  |c0::c1::c2::c3::t,_=>exact ⟨c0,c1,c2,c3,t,rfl⟩
 have Hh:=uQ (show Tab.home (c0::c1::c2::c3::t) (2^j)=Frm.num [c0,c1,c2,c3]%2^j from rfl)
 have hB:=h.alloc (.cells (bys (c0::c1::c2::c3::t)).toArray 31)
 have e0:(w.alloc (.cells (bys (c0::c1::c2::c3::t)).toArray 31)).cell? ⟨w.heap.size,0,none⟩=some (.int .u8 c0.toNat):=hB.cellAt 0 _ rfl
 have e1:(w.alloc (.cells (bys (c0::c1::c2::c3::t)).toArray 31)).cell? ⟨w.heap.size,1,none⟩=some (.int .u8 c1.toNat):=hB.cellAt 1 _ rfl
 have e2:(w.alloc (.cells (bys (c0::c1::c2::c3::t)).toArray 31)).cell? ⟨w.heap.size,2,none⟩=some (.int .u8 c2.toNat):=hB.cellAt 2 _ rfl
 have e3:(w.alloc (.cells (bys (c0::c1::c2::c3::t)).toArray 31)).cell? ⟨w.heap.size,3,none⟩=some (.int .u8 c3.toNat):=hB.cellAt 3 _ rfl
 have b0:=c0.toNat_lt;have b1:=c1.toNat_lt;have b2:=c2.toNat_lt;have b3:=c3.toNat_lt
 have q1:bits .or .u32 (c0.toNat:Int) ((c1.toNat:Int) * 256)=((Frm.num [c0,c1]:Nat):Int):=by
  have:=or_num32 [c0] c1 1 rfl dCz
  simpa [Frm.num] using this
 have q2:bits .or .u32 ((Frm.num [c0,c1]:Nat):Int) ((c2.toNat:Int) * 65536)=((Frm.num [c0,c1,c2]:Nat):Int):=or_num32 [c0,c1] c2 2 rfl dCz
 have q3:bits .or .u32 ((Frm.num [c0,c1,c2]:Nat):Int) ((c3.toNat:Int) * 16777216)=((Frm.num [c0,c1,c2,c3]:Nat):Int):=or_num32 [c0,c1,c2] c3 3 rfl dCz
 have hn:=Frm.num_lt [c0,c1,c2,c3]
 rw [show [c0,c1,c2,c3].length=4 from rfl,show (256:Nat)^4=4294967296 by decide]at hn
 have hp:(2:Nat)^j≤2^40:=Nat.pow_le_pow_right dCz oQ
 have hp1:(2:Nat)^40=1099511627776:=by decide
 have hp0:0<2^j:=Nat.two_pow_pos j
 have q4:=and_mask (Frm.num [c0,c1,c2,c3]) j oQ oQ
 generalize Frm.num [c0,c1,c2,c3]=N at *
 generalize hC:2^j=C at *
 have hw1:IntKind.i64.wrap ((C:Int) - 1)=((C - 1:Nat):Int):=by rw [IntKind.wrap_i64];omega
 have hw2:IntKind.i64.wrap (N:Int)=(N:Int):=IntWalk.i64_in _ oQ
 have hm2:N%C<C:=Nat.mod_lt _ hp0
 clear h hk hC hp hp1
 go_enter Tryz.func120,Tryz.ntmps120
 go_wp2_with fail
 go_ret
 refine ⟨_,rfl,?_,hB.drop⟩
 rw [Hh.out,Int.natCast_emod];rfl
end
section
variable {w0 w:World}{L L' R F:List HProp}{b o:Nat}{ops:Array Oper}{rest:List Oper}{a:Act}{Q:Exit→Act→World→Prop}
variable {dst:Option Tmp}{t T ty:TypeId}{pos:String}{after:Array Edge}{x y:Operand}{cs:Array Value}{v:Value}{P:Program}
theorem wl_loadW (ks:List Value) (hx:a.eval x = .pointer (some ⟨b,o,none⟩)) (hc:∀ j v,ks[j]?=some v→w.cell? ⟨b,o+j,none⟩=some v)
  {d:TypeDesc} (hu:P.underlying ty=some d) (hd:d.isRow=true) (hi:(P.info? ty).map (·.size)=some ks.length)
  (h:wpList P ops Q rest (a.put dst (.agg ks.toArray)) w):wpList P ops Q (⟨dst,.load ty x,t,pos,after,none⟩::rest) a w:=
 wpList_load_mid rfl ty x rfl b o hx ks d hc hu hd hi h
theorem wl_storeA (ks:Array Value) (hs:Sat w0 w L) (hx:a.eval x = .pointer (some ⟨b,0,none⟩)) (hy:a.eval y = .agg ks) (hsz:ks.size=cs.size) (u:Upd (pt b (.cells cs T (0,0))) (pt b (.cells ks T (0,0))) L L')
  (hi:(P.info? ty).map (·.size)=some ks.size) (h1:ks.toList.all (·.oneCell')=true)
  (hK:∀ w',Sat w0 w' L'→wpList P ops Q rest (a.put dst undef) w'):wpList P ops Q (⟨dst,.store ty x y,t,pos,after,none⟩::rest) a w:=
 wl_store hs hx hy (putsAt_eq (by
  show (putsAt cs 0 ks.toList).toList=_
  rw [putsAt_list _ _ _ (by rw [Array.length_toList];omega),List.take_zero,List.nil_append,Nat.zero_add,List.drop_of_length_le (by rw [Array.length_toList,Array.length_toList];omega),List.append_nil])) u (by show 0+ks.size≤cs.size;omega) hi h1 hK
end
abbrev plcA (q:Seg.Plc):Value:= .agg #[.int .i64 q.seg,.int .i64 q.at_,.int .i64 q.size]
theorem zPlace:zeroB Tryz.prog 87=some (.agg #[.int .i64 0,.int .i64 0,.int .i64 0]):=by kernel_rfl
structure SegBlk (l:List (Int×Int)) (n cap:Nat) (cs:Array Value):Prop where
 len:l.length=n+1
 le:n+1≤cap
 size:cap * 2≤cs.size
 max:cap≤maxLen
 take:cs.toList.take ((n+1) * 2)=segw l
theorem segw_set (l:List (Int×Int)) (s:Int×Int) (z:Int):(segw (l++[s])).set (l.length * 2+1) (.int .i64 z)=segw (l++[(s.1,z)]):=by
 rw [segw_app,segw_app]
 rw [List.set_append_right _ _ (by rw [segw_len];omega),segw_len,show l.length * 2+1 - 2 * l.length=1 by omega]
 rfl
theorem set_take {α:Type} (l:List α) (k i:Nat) (x:α) (h:i<k):(l.set i x).take k=(l.take k).set i x:=by
 rw [List.take_set]
section
variable {w0 w:World}{F R:List HProp}{v bv dv x lv:Value}{q p m K:Nat}{L:Seg.Log}{M:Med}{s:Int×Int}
theorem seg_block (hl:L.l.getLast?=some s) (h:Sat w0 w (LogRaw p m L lv++F)) :
  ∃ bk n cap cs,lv = .slice (some ⟨bk,0,none⟩) (n+1) cap∧SegBlk L.l n cap cs∧cs[n * 2]?=some (.int .i64 s.1)∧cs[n * 2+1]?=some (.int .i64 s.2) ∧
   Sat w0 w (logPt p m L (.slice (some ⟨bk,0,none⟩) (n+1) cap)::pt bk (.cells cs 123 (0,0))::F):=by
 rw [List.getLast?_eq_getElem?]at hl
 have hlt:=(List.getElem?_eq_some_iff.1 hl).1
 obtain ⟨n,hn⟩:∃ n,L.l.length=n+1:=⟨L.l.length - 1,by omega⟩
 rw [hn,Nat.add_sub_cancel]at hl
 obtain ⟨h1,h2⟩:=segw_at _ _ _ hl
 have hS:Sat w0 w (osl 123 2 lv (segw L.l)::logPt p m L lv::F):=h.pick1
 rcases hS.osl_cases with ⟨rfl,hx,_⟩|⟨b,n',cap,cs,rfl,hll,hn',hc,hcm,htk,hp⟩
 ·rw [hx]at h1;simp at h1
 ·rw [segw_len,hn]at hll
  obtain rfl:n'=n+1:=by omega
  refine ⟨b,n,cap,cs,rfl,⟨hn,hn',hc,hcm,htk⟩,?_,?_,hp.pick1⟩
  ·rw [Nat.mul_comm];exact take_get htk h1
  ·rw [Nat.mul_comm];exact take_get htk h2
theorem seg_keep {bk n cap:Nat}{cs:Array Value} (hb:SegBlk L.l n cap cs) (h:Sat w0 w (pt bk (.cells cs 123 (0,0))::R)) :
  Sat w0 w (osl 123 2 (.slice (some ⟨bk,0,none⟩) (n+1) cap) (segw L.l)::R):=
 Sat.osl_of_pt h (by rw [segw_len,hb.len];omega) hb.le hb.size hb.max hb.take
theorem seg_close {bk n cap:Nat}{cs:Array Value} (hl:L.l.getLast?=some s) (hb:SegBlk L.l n cap cs) (z:Int)
  (h:Sat w0 w (pt bk (.cells (putsAt cs (n * 2+1) [.int .i64 z]) 123 (0,0))::R)) :
  Sat w0 w (osl 123 2 (.slice (some ⟨bk,0,none⟩) (n+1) cap) (segw (L.l.dropLast++[(s.1,z)]))::R):=by
 have e:=Seg.last_split hl
 have hlen:=Seg.last_len hl
 have hn:=hb.len
 refine Sat.osl_of_pt h ?_ hb.le ?_ hb.max ?_
 ·rw [segw_len,List.length_append,List.length_singleton];omega
 ·rw [putsAt_size];exact hb.size
 ·simp only [putsAt,Array.toList_setIfInBounds]
  rw [set_take _ _ _ _ oQ,hb.take,e,List.dropLast_append_cons,show n=L.l.dropLast.length by omega]
  simp only [List.dropLast_singleton,List.append_nil]
  exact segw_set _ _ _
set_option maxRecDepth 20000 in
theorem grow_c (hl:L.l.getLast?=some s) (hs:0≤s.2∧s.2≤33554432) (hM:M.Ok K) (hKK:K≤1099511627776) (hlen:L.l.length≤1048576) (b:Bs) (hbl:b.length≤1073741824) (hr:Ro w0 F (rdsl 1 bv (bys b)))
  (h:Sat w0 w (LogRep p m L::MedRep m M::F)) :
  Calls Tryz.prog 73 #[ptr p,bv] w (Rtn fun v w'=>v = .tuple #[plcA (L.grow M b).2.1,errno (L.grow M b).2.2] ∧
   Sat w0 w' (LogRep p m (L.grow M b).1.1::MedRep m (L.grow M b).1.2::F)):=by
 obtain ⟨lv,hR⟩:=LogRep.open h
 clear h
 obtain ⟨bk,n,cap,cs,rfl,hb,c0,c1,hS⟩:=seg_block hl hR
 clear hR
 obtain ⟨ba,bn,bc,rfl,hbn⟩:=ro_len hr (A:=emp) (Sat.emp.2 (hS.sel 3 [] rfl rfl))
 subst hbn
 have Hg:=uQ (show L.grow M b=if (M.append (Seg.name s.1) b).2=0 then (({ L with l:=L.l.dropLast++[(s.1,s.2+(b.length:Int))] },(M.append (Seg.name s.1) b).1),⟨s.1,s.2,b.length⟩,0)
  else ((L,(M.append (Seg.name s.1) b).1),Seg.Plc.zero,(M.append (Seg.name s.1) b).2) by unfold Seg.Log.grow;rw [hl])
 have hn:=hb.len
 have Hb:=uQ hb;have Hr:=uQ hr;have Hl:=uQ hl;have Hs:=uQ hs;have Hc0:=uQ c0;have Hc1:=uQ c1;have Hbl:=uQ hbl
 have hn0:(n:Int)<(n:Int)+1:=oQ
 have hwn:IntKind.i64.wrap (n:Int)=(n:Int):=by rw [IntKind.wrap_i64];omega
 have hwz:IntKind.i64.wrap (s.2+(b.length:Int))=s.2+(b.length:Int):=by rw [IntKind.wrap_i64];omega
 have Hwz:=uQ hwz
 clear hn hb hr hl hs c0 c1 hbl hlen hwz
 go_enter Tryz.func73,Tryz.ntmps73
 go_wp2_with (refine wl_alloc zPlace aQ rfl ?_;intro q w1 hS1)
 refine wpL_begin [10,11] (fun w'=>w'.cell? ⟨p,2,none⟩=some (.slice (some ⟨bk,0,none⟩) (n+1) cap)) kRz ?_
 have hG:w1.drew.cell? ⟨p,2,none⟩=some (.slice (some ⟨bk,0,none⟩) (n+1) cap):=hS1.drew.cellP pkD 2 rfl
 refine rP 0 ?_ (y:=mvQ)
 refine rP 1 ?_ (y:=nlQ)
 refine rP 2 ?_ (y:=flQ)
 refine rt 3 (h:=?_)
 refine rP 4 ?_ (y:=mvQ)
 refine rP 5 ?_ (y:=nlQ)
 refine rP 6 ?_ (y:=flQ)
 refine rt 7 (h:=?_)
 refine rP 8 ?_ (y:=(yl_len evD rnD))
 refine rP 9 ?_ (y:=bnQ)
 refine rP 10 ?_ (y:=ixQ)
 refine rP 11 ?_ (y:=asQ)
 refine wpL_done kRz ?_
 clear hG
 have hS2:=hS1.drew
 generalize w1.drew=w2 at *
 clear hS1 hS
 go_wp2_with fail
 refine wpL_begin [10,11] (fun w'=>w'.cell? ⟨p,0,none⟩=some (ptr m)∧w'.cell? ⟨bk,n * 2,none⟩=some (.int .i64 s.1)) kRz ?_
 have hG:w2.drew.cell? ⟨p,0,none⟩=some (ptr m)∧w2.drew.cell? ⟨bk,n * 2,none⟩=some (.int .i64 s.1):=⟨hS2.drew.cellP pkD 0 rfl,hS2.drew.cellP pkD _ Hc0.out⟩
 refine rP 0 ?_ (y:=mvQ)
 refine rP 1 ?_ (y:=nlQ)
 refine rP 2 ?_ (y:=flQ)
 refine rt 3 (h:=?_)
 refine rP 4 ?_ (y:=mvQ)
 refine rP 5 ?_ (y:=nlQ)
 refine rP 6 ?_ (y:=flQ)
 refine rt 7 (h:=?_)
 refine rP 9 ?_ (y:=mvQ)
 refine rg_eff 8 evD kRz (fun K hK=>?_)
 clear hG
 (refine eff_call1 kRz evD ?_)
 refine (sname_c s.1 hS2.drew).mono ?_
 rintro e w3 ⟨v,rfl,rfl,hS3⟩
 refine hK _ _ (.inr (.inl ⟨hS3.cellP pkD 0 rfl,hS3.cellP pkD _ Hc0.out⟩)) ?_
 clear hK K
 refine rg_eff 10 evD kRz (fun K hK=>?_)
 (refine eff_call3 kRz evD evD evD ?_)
 refine (append_c hM hKK (Sat.pk aQ) _ b (by first|assumption|exact Ro.op (Ro.bsl _ _)|exact Ro.os aQ)).mono ?_
 rintro e w4 ⟨v,rfl,rfl,hS4⟩
 refine hK _ _ (.inl rfl) ?_
 clear hK K
 refine rP 11 ?_ (y:=asQ)
 refine wpL_done kRz ?_
 clear hS3 hS2 Hr
 generalize M.append (Seg.name s.1) b=r at *
 obtain ⟨M2,ee⟩:=r
 by_cases he:ee=0
 ·subst he
  have hfin:=uQ (Hg.out.trans (if_pos rfl))
  have e1:w4.cell? ⟨bk,n * 2+1,none⟩=some (.int .i64 s.2):=hS4.cellP pkD _ Hc1.out
  have hfit:=Hb.out.size;have hle:=Hb.out.le
  have hst:=uQ (show n * 2+1+(Value.int .i64 (s.2+(b.length:Int))).cells.size≤cs.size by show n * 2+1+1≤cs.size;omega)
  have hwz:=Hwz.out
  clear hfit hle
  go_wp2_with (refine wpList_stop rFz ?_)
  refine ⟨wl_store (b:=bk) (o:=n * 2+1) (v:= .int .i64 (s.2+(b.length:Int))) aQ rFz rFz rfl upD hst.out kRz rFz ?_⟩
  intro w5 hS5
  have e0:w5.cell? ⟨bk,n * 2,none⟩=some (.int .i64 s.1):=hS5.cellP pkD _ (by
   show (cs.setIfInBounds (n * 2+1) _)[n * 2]?=_
   rw [Array.getElem?_setIfInBounds_ne oQ];exact Hc0.out)
  clear e1 hst hwz
  go_wp2_with ((with_reducible refine at_store ⟨?_⟩);refine wl_store aQ rFz evD pQ upD nLz kRz rFz ?_;intro wS hS)
  refine ⟨rfl,_,res_cell_tmp rfl aQ rFz pkD Tryz.underlying87 rfl kRz,_,rfl,?_,?_⟩
  ·rw [hfin.out];rfl
  ·rw [hfin.out]
   have h6:=seg_close Hl.out Hb.out _ (Sat.pk hS)
   exact LogRep.shut2 (lv:= .slice (some ⟨bk,0,none⟩) (n+1) cap) (Sat.sb h6)
 ·have heb:(ee==0)=false:=beq_false_of_ne he
  have hfin:=uQ (Hg.out.trans (if_neg he))
  clear he
  go_wp2_with ((with_reducible refine at_store ⟨?_⟩);refine wl_store aQ rFz evD pQ upD nLz kRz rFz ?_;intro wS hS)
  refine ⟨rfl,_,res_cell_tmp rfl aQ rFz pkD Tryz.underlying87 rfl kRz,_,rfl,?_,?_⟩
  ·rw [hfin.out];rfl
  ·rw [hfin.out]
   have h6:=seg_keep Hb.out (Sat.pk hS)
   exact LogRep.shut2 (lv:= .slice (some ⟨bk,0,none⟩) (n+1) cap) (Sat.sb h6)
end
end Go.Proofs.YtjbhhbnopnmcnaaGreatDoor
namespace Go.Seg
open Go.Med
theorem Log.shut_off {L:Log} (M:Med) (h:L.on=false):L.shut M=((L,M),0):=by
 unfold Log.shut
 split
 ·rfl
 ·rw [if_neg (by rw [h];decide)]
theorem Log.Ok.last {L:Log} (h:L.Ok) (hon:L.on=true):∃ s,L.l.getLast?=some s:=by
 cases hl:L.l.getLast? with
 |none=>exact absurd (List.getLast?_eq_none_iff.1 hl) (h.on hon)
 |some s=>exact ⟨s,rfl⟩
theorem Log.shut_on {L:Log} (M:Med){s:Int×Int} (hl:L.l.getLast?=some s) (h:L.on=true) :
  L.shut M=if (M.sync (name s.1)).2=0 then (({ L with on:=false },(M.sync (name s.1)).1),0) else ((L,(M.sync (name s.1)).1),(M.sync (name s.1)).2):=by
 unfold Log.shut
 rw [hl]
 simp only [h,if_true]
end Go.Seg
namespace Go.Proofs.YtjbhhbnopnmcnaaGreatDoor
open Go Go.Sl Go.Med Go.MapKept Go.RowKit
section
variable {w0 w:World}{F R:List HProp}{v bv dv x lv:Value}{q p m K:Nat}{L:Seg.Log}{M:Med}{s:Int×Int}
set_option maxRecDepth 20000 in
theorem shut_c (hL:L.Ok) (hM:M.Ok K) (h:Sat w0 w (LogRep p m L::MedRep m M::F)) :
  Calls Tryz.prog 117 #[ptr p] w (Rtn fun v w'=>v=errno (L.shut M).2∧Sat w0 w' (LogRep p m (L.shut M).1.1::MedRep m (L.shut M).1.2::F)):=by
 cases hon:L.on
 ·obtain ⟨lv,hR⟩:=LogRep.open h
  refine (shut0_c hon hR).mono ?_
  rintro e w1 ⟨v,rfl,rfl,rfl⟩
  rw [Seg.Log.shut_off M hon]
  exact ⟨_,rfl,rfl,h⟩
 ·obtain ⟨s,hl⟩:=hL.last hon
  obtain ⟨lv,hR⟩:=LogRep.open h
  clear h
  have hlen:=hL.len
  obtain ⟨bk,n,cap,cs,rfl,hb,c0,c1,hS⟩:=seg_block hl hR
  clear hR c1
  have hn:=hb.len
  have Hg:=uQ (Seg.Log.shut_on M hl hon)
  have Hb:=uQ hb;have Hl:=uQ hl;have Hc0:=uQ c0
  have hn0:(n:Int)<(n:Int)+1:=oQ
  have hwn:IntKind.i64.wrap (n:Int)=(n:Int):=by rw [IntKind.wrap_i64];omega
  have e3:w.cell? ⟨p,3,none⟩=some (.bool true):=hS.cellP pkD 3 (by rw [← hon];rfl)
  clear hn hb hl c0 hlen hon
  go_enter Tryz.func117,Tryz.ntmps117
  go_wp2_with fail
  refine wpL_begin [18,19] (fun w'=>w'.cell? ⟨p,0,none⟩=some (ptr m)∧w'.cell? ⟨p,2,none⟩=some (.slice (some ⟨bk,0,none⟩) (n+1) cap)∧w'.cell? ⟨bk,n * 2,none⟩=some (.int .i64 s.1)) kRz ?_
  have hG:w.drew.cell? ⟨p,0,none⟩=some (ptr m)∧w.drew.cell? ⟨p,2,none⟩=some (.slice (some ⟨bk,0,none⟩) (n+1) cap)∧w.drew.cell? ⟨bk,n * 2,none⟩=some (.int .i64 s.1):=⟨hS.drew.cellP pkD 0 rfl,hS.drew.cellP pkD 2 rfl,hS.drew.cellP pkD _ Hc0.out⟩
  refine rP 0 ?_ (y:=mvQ)
  refine rP 1 ?_ (y:=nlQ)
  refine rP 2 ?_ (y:=flQ)
  refine rt 3 (h:=?_)
  refine rP 4 ?_ (y:=mvQ)
  refine rP 5 ?_ (y:=nlQ)
  refine rP 6 ?_ (y:=flQ)
  refine rt 7 (h:=?_)
  refine rP 8 ?_ (y:=mvQ)
  refine rP 9 ?_ (y:=nlQ)
  refine rP 10 ?_ (y:=flQ)
  refine rt 11 (h:=?_)
  refine rP 12 ?_ (y:=(yl_len evD rnD))
  refine rP 13 ?_ (y:=bnQ)
  refine rP 14 ?_ (y:=ixQ)
  refine rP 15 ?_ (y:=flQ)
  refine rt 16 (h:=?_)
  clear hG e3
  refine rg_eff 17 evD kRz (fun K hK=>?_)
  (refine eff_call1 kRz evD ?_)
  refine (sname_c s.1 hS.drew).mono ?_
  rintro e w3 ⟨v,rfl,rfl,hS3⟩
  refine hK _ _ (.inr (.inl ⟨hS3.cellP pkD 0 rfl,hS3.cellP pkD 2 rfl,hS3.cellP pkD _ Hc0.out⟩)) ?_
  clear hK K
  refine rg_eff 18 evD kRz (fun K hK=>?_)
  (refine eff_call2 kRz evD evD ?_)
  refine (sync_c hM (Sat.pk aQ) _).mono ?_
  rintro e w4 ⟨v,rfl,rfl,hS4⟩
  refine hK _ _ (.inl rfl) ?_
  clear hK K
  refine rP 19 ?_ (y:=asQ)
  refine wpL_done kRz ?_
  clear hS3 hS
  generalize M.sync (Seg.name s.1)=r at *
  obtain ⟨M2,ee⟩:=r
  by_cases he:ee=0
  ·subst he
   have hfin:=uQ (Hg.out.trans (if_pos rfl))
   go_wp2_with ((with_reducible refine at_store ⟨?_⟩);refine wl_store aQ rFz evD pQ upD nLz kRz rFz ?_;intro wS hS)
   go_ret
   refine ⟨errno 0,rfl,by rw [hfin.out],?_⟩
   rw [hfin.out]
   have h6:=seg_keep Hb.out (Sat.pk hS)
   exact LogRep.shut2 (lv:= .slice (some ⟨bk,0,none⟩) (n+1) cap) (Sat.sb h6)
  ·have heb:(ee==0)=false:=beq_false_of_ne he
   have hfin:=uQ (Hg.out.trans (if_neg he))
   clear he
   go_wp2_with ((with_reducible refine at_store ⟨?_⟩);refine wl_store aQ rFz evD pQ upD nLz kRz rFz ?_;intro wS hS)
   go_ret
   refine ⟨errno ee,rfl,by rw [hfin.out],?_⟩
   rw [hfin.out]
   have h6:=seg_keep Hb.out (Sat.pk hS4)
   exact LogRep.shut2 (lv:= .slice (some ⟨bk,0,none⟩) (n+1) cap) (Sat.sb h6)
end
end Go.Proofs.YtjbhhbnopnmcnaaGreatDoor
namespace Go.Seg
open Go.Med
theorem Log.shut_med {L:Log}{M:Med}{K:Nat} (h:M.Ok K):(L.shut M).1.2.Ok (K+1):=by
 unfold Log.shut
 split;· exact h.mono (Nat.le_succ K)
 split
 ·split <;> exact h.sync _
 ·exact h.mono (Nat.le_succ K)
theorem Log.begin_eq (L:Log) (M:Med) (b:Bs):L.begin M b=if (L.shut M).2=0 then (L.shut M).1.1.begin1 (L.shut M).1.2 b else ((L.shut M).1,Plc.zero,(L.shut M).2):=rfl
theorem name_size (n:Int):(name n).size≤9223372036854775807:=by
 unfold name
 split
 ·decide
 ·show (lead++digs n.toNat 8).toArray.size≤_
  rw [List.size_toArray,List.length_append,digs_len];decide
end Go.Seg
namespace Go.Proofs.YtjbhhbnopnmcnaaGreatDoor
open Go Go.Sl Go.Med Go.MapKept Go.RowKit
section
variable {w0 w:World}{F R:List HProp}{v bv dv x lv:Value}{q p m K:Nat}{L:Seg.Log}{M:Med}{s:Int×Int}
theorem lnext_c (hL:L.Ok) (h:Sat w0 w (LogRep p m L::F)) :
  Calls Tryz.prog 118 #[ptr p] w (Rtn fun v w'=>v = .int .i64 L.next∧Sat w0 w' (LogRep p m L::F)):=by
 obtain ⟨lv,hR⟩:=LogRep.open h
 refine (snext_c hL.len hL.nums hR).mono ?_
 rintro e w1 ⟨v,rfl,rfl,hS⟩
 exact ⟨_,rfl,rfl,LogRep.shut2 hS⟩
theorem segw_snoc (l:List (Int×Int)) (n z:Int):segw l++[.int .i64 n,.int .i64 z]=segw (l++[(n,z)]):=by rw [segw_app];rfl
set_option maxRecDepth 20000 in
theorem begin_c (hL:L.Ok) (hM:M.Ok K) (hKK:K+4≤1099511627776) (b:Bs) (hb0:b≠[]) (hbl:b.length≤16777216) (hr:Ro w0 F (rdsl 1 bv (bys b)))
  (h:Sat w0 w (LogRep p m L::MedRep m M::F)) :
  Calls Tryz.prog 74 #[ptr p,bv] w (Rtn fun v w'=>v = .tuple #[plcA (L.begin M b).2.1,errno (L.begin M b).2.2] ∧
   Sat w0 w' (LogRep p m (L.begin M b).1.1::MedRep m (L.begin M b).1.2::F)):=by
 obtain ⟨ba,bn,bc,rfl,hbn⟩:=ro_len hr (A:=emp) (Sat.emp.2 (h.sel 2 [] rfl rfl))
 subst hbn
 obtain ⟨i,hi,hz0,hz1,hz2⟩:=info8p
 have Hg:=uQ (Seg.Log.begin_eq L M b)
 have HM:=uQ (Seg.Log.shut_med (L:=L) hM)
 have HL:=uQ (hL.shut M)
 have Hr:=uQ hr;have Hb0:=uQ hb0;have Hbl:=uQ hbl
 clear hr hb0 hbl
 go_enter Tryz.func74,Tryz.ntmps74
 go_wp2_with (refine wl_alloc zPlace aQ rfl ?_;intro q w1 hS1)
 refine (shut_c hL hM (Sat.sb aQ)).mono ?_
 rintro e w2 ⟨v,rfl,rfl,hS2⟩
 clear hS1 h hL hM
 generalize L.shut M=S at *
 obtain ⟨⟨L1,M1⟩,e1⟩:=S
 by_cases he:e1=0
 rotate_left
 ·have heb:(e1==0)=false:=beq_false_of_ne he
  have hfin:=uQ (Hg.out.trans (if_neg he))
  clear he
  go_wp2_with ((with_reducible refine at_store ⟨?_⟩);refine wl_store aQ rFz evD pQ upD nLz kRz rFz ?_;intro wS hS)
  refine ⟨rfl,_,res_cell_tmp rfl aQ rFz pkD Tryz.underlying87 rfl kRz,_,rfl,?_,?_⟩
  ·rw [hfin.out];rfl
  ·rw [hfin.out];exact Sat.sb hS
 subst he
 have H1:=uQ (Hg.out.trans (if_pos rfl))
 clear Hg
 go_wp2_with fail
 refine (lnext_c HL.out (Sat.pk aQ)).mono ?_
 rintro e w3 ⟨v,rfl,rfl,hS3⟩
 clear hS2
 have hs1:=uQ HL.out.next
 have hfr:=uQ HL.out.fresh
 have hln:=uQ HL.out.len
 unfold Seg.Log.begin1 at H1
 have Hnm:=uQ (Seg.name_size L1.next)
 by_cases hn:1048576≤L1.next
 ·have hfin:=uQ (H1.out.trans (if_pos hn))
  generalize L1.next=n at *
  go_wp2_with ((with_reducible refine at_store ⟨?_⟩);refine wl_store aQ rFz evD pQ upD nLz kRz rFz ?_;intro wS hS)
  refine ⟨rfl,_,res_cell_tmp rfl aQ rFz pkD Tryz.underlying87 rfl kRz,_,rfl,?_,?_⟩
  ·rw [hfin.out];rfl
  ·rw [hfin.out];exact Sat.sb hS
 have H2:=uQ (H1.out.trans (if_neg hn))
 clear H1
 have Hn:=uQ hn
 have hnd:¬ 1048576≤L1.next:=hn
 clear hn
 have hnm:=sname_c L1.next hS3
 generalize hnn:L1.next=n at *
 have Hnn:=uQ hnn
 clear hnn
 go_wp2_with fail
 refine hnm.mono ?_
 rintro e w4 ⟨v,rfl,rfl,hS4⟩
 clear hnm hS3 hnd
 generalize Seg.name n=nm at *
 obtain ⟨lv,hR⟩:=LogRep.open2 (Sat.pk aQ)
 have e0:w4.cell? ⟨p,0,none⟩=some (ptr m):=hR.cellP pkD 0 rfl
 go_wp2_with fail
 refine (create_c HM.out oQ (Sat.pk aQ) nm Hnm.out).mono ?_
 rintro e w5 ⟨v,rfl,rfl,hS5⟩
 have HM2:=uQ (HM.out.create nm)
 clear hS4 hR e0
 generalize M1.create nm=C at *
 obtain ⟨M2,e2⟩:=C
 by_cases he:e2=0
 rotate_left
 ·have heb:(e2==0)=false:=beq_false_of_ne he
  have hfin:=uQ (H2.out.trans (if_pos he))
  clear he
  go_wp2_with ((with_reducible refine at_store ⟨?_⟩);refine wl_store aQ rFz evD pQ upD nLz kRz rFz ?_;intro wS hS)
  refine ⟨rfl,_,res_cell_tmp rfl aQ rFz pkD Tryz.underlying87 rfl kRz,_,rfl,?_,?_⟩
  ·rw [hfin.out];rfl
  ·rw [hfin.out];exact LogRep.shut2 (lv:=lv) (Sat.sb hS)
 subst he
 have H3:=uQ (H2.out.trans (if_neg (fun h=>h rfl)))
 clear H2
 go_wp2_with fail
 refine wpL_begin [9,10] (fun w'=>w'.cell? ⟨p,0,none⟩=some (ptr m)) kRz ?_
 have hG:w5.drew.cell? ⟨p,0,none⟩=some (ptr m):=hS5.drew.cellP pkD 0 rfl
 refine rP 0 ?_ (y:=mvQ)
 refine rP 1 ?_ (y:=nlQ)
 refine rP 2 ?_ (y:=flQ)
 refine rt 3 (h:=?_)
 refine rP 4 ?_ (y:=mvQ)
 refine rP 7 ?_ (y:=mvQ)
 refine rg_eff 5 evD kRz (fun K hK=>?_)
 go_simp
 have hB1:=hS5.drew.alloc (.cells #[.int .u8 72,.int .u8 79,.int .u8 65,.int .u8 82,.int .u8 68,.int .u8 83,.int .u8 69,.int .u8 71] 5)
 refine hK _ _ (.inr (.inl (hB1.cellP pkD 0 rfl))) ?_
 clear hK K hG hB1
 refine rg_eff 6 evD kRz (fun K hK=>?_)
 have hcv:(convert 38 38 (.slice (some ⟨w5.heap.size,0,none⟩) 8 8)).run Tryz.prog ((w5.alloc (.cells #[.int .u8 72,.int .u8 79,.int .u8 65,.int .u8 82,.int .u8 68,.int .u8 83,.int .u8 69,.int .u8 71] 5)).drew) = .ok (.slice (some ⟨w5.heap.size,0,none⟩) 8 8) ((w5.alloc (.cells #[.int .u8 72,.int .u8 79,.int .u8 65,.int .u8 82,.int .u8 68,.int .u8 83,.int .u8 69,.int .u8 71] 5 (8,9))).drew):=
  Lib.run_convert_bytes_const (P:=Tryz.prog) w5.drew 38 5 #[.int .u8 72,.int .u8 79,.int .u8 65,.int .u8 82,.int .u8 68,.int .u8 83,.int .u8 69,.int .u8 71] 8 8 Tryz.underlying38 Tryz.underlying5
 have hB:=(hS5.alloc (.cells #[.int .u8 72,.int .u8 79,.int .u8 65,.int .u8 82,.int .u8 68,.int .u8 83,.int .u8 69,.int .u8 71] 5 (8,9))).drew
 go_simp
 refine hK _ _ (.inr (.inl (hB.cellP pkD 0 rfl))) ?_
 clear hK K
 have hrd:=Hr.out _ (hB.sb)
 have hold:rdsl 1 (.slice (some ⟨w5.heap.size,0,none⟩) 8 8) (bys Seg.mag) ((w5.alloc (.cells #[.int .u8 72,.int .u8 79,.int .u8 65,.int .u8 82,.int .u8 68,.int .u8 83,.int .u8 69,.int .u8 71] 5 (8,9))).drew):=by
  refine ⟨_,8,8,rfl,rfl,fun j x hj=>⟨_,rfl,?_⟩⟩
  rw [add_zero_lit]
  have hjl:j<Seg.mag.length:=by
   have:=(List.getElem?_eq_some_iff.1 hj).1
   rw [bys_len]at this;exact this
  have hx:=(mrow_set (l:=Seg.mag) hB hjl 0).1
  unfold bys at hj
  rw [List.getElem?_map,List.getElem?_eq_getElem hjl]at hj
  cases hj
  exact hx
 have hy0:bys b≠[]:=by
  intro h
  apply Hb0.out
  unfold bys at h
  exact List.map_eq_nil_iff.1 h
 have h63:(bys Seg.mag).length+(bys b).length≤maxLen:=by rw [bys_len,bys_len];have:=Hbl.out;unfold maxLen Seg.mag;simp;omega
 have hby:((bys Seg.mag).length+(bys b).length) * i.bytes≤140737488355328:=by rw [bys_len,bys_len,hz2];have:=Hbl.out;unfold Seg.mag;simp;omega
 refine rg_eff 8 evD kRz (fun K hK=>?_)
 refine step_append_fresh (w0:=w0) (xs:=bys Seg.mag) (b:=w5.heap.size) (n:=8) (cap:=8) rFz _ _ _ rFz _ i _ Tryz.underlying38 hi hz0 hz1 rFz rfl (Nat.le_refl _) hold hB.drop rFz rFz hrd hy0 h63 hby ?_
 intro b4 n4 k4 w6 hS6
 clear hcv hrd hold hy0 h63 hby hB
 have hS6:Sat w0 w6 (bsl (.slice (some ⟨b4,0,none⟩) n4 k4) (Seg.mag++b)::MedRep m M2::pt q (.cells #[.int .i64 0,.int .i64 0,.int .i64 0] 87)::logPt p m L1 lv::osl 123 2 lv (segw L1.l)::F):=by
  have e:bys Seg.mag++bys b=bys (Seg.mag++b):=by unfold bys;rw [List.map_append]
  rw [e]at hS6
  exact Sat.sb hS6
 refine hK _ _ (.inr (.inl (hS6.cellP pkD 0 rfl))) ?_
 clear hK K hS5
 refine rg_eff 9 evD kRz (fun K hK=>?_)
 (refine eff_call3 kRz evD evD evD ?_)
 refine (append_c HM2.out oQ (Sat.pk aQ) nm (Seg.mag++b) (by first|assumption|exact Ro.op (Ro.bsl _ _)|exact Ro.os aQ)).mono ?_
 rintro e w7 ⟨v,rfl,rfl,hS7⟩
 refine hK _ _ (.inl rfl) ?_
 clear hK K
 refine rP 10 ?_ (y:=asQ)
 refine wpL_done kRz ?_
 clear hS6
 have HM3:=uQ (HM2.out.append nm (Seg.mag++b))
 generalize M2.append nm (Seg.mag++b)=D at *
 obtain ⟨M3,e3⟩:=D
 by_cases he:e3=0
 ·subst he
  have hfin:=uQ (H3.out.trans (if_pos rfl))
  have c2:w7.cell? ⟨p,2,none⟩=some lv:=hS7.cellP pkD 2 rfl
  have hwl:IntKind.i64.wrap (8+(b.length:Int))=8+(b.length:Int):=by rw [IntKind.wrap_i64];have:=Hbl.out;omega
  obtain ⟨ii,hii,hy0,hy1,hy2⟩:=info_parts infoSeg
  have h7:=hS7.alloc (.cells #[.int .i64 n,.int .i64 (8+(b.length:Int))] 123)
  have hoc:∀ u∈(#[.int .i64 n,.int .i64 (8+(b.length:Int))]:Array Value).toList,u.oneCell'=true:=by
   intro u hu
   simp only [List.mem_cons,List.not_mem_nil,or_false]at hu
   rcases hu with rfl|rfl <;> rfl
  have h63:(segw L1.l).length+2≤maxLen:=by rw [segw_len];have:=hln.out;unfold maxLen;omega
  have hby:((segw L1.l).length+2) * ii.bytes≤140737488355328:=by rw [segw_len,hy2];have:=hln.out;omega
  have h8:Sat w0 _ (osl 123 2 lv (segw L1.l)::logPt p m L1 lv::pt q (.cells #[.int .i64 0,.int .i64 0,.int .i64 0] 87)::MedRep m M3::F):=h7.sb
  have hwf:IntKind.i64.wrap (L1.fresh+1)=L1.fresh+1:=by rw [IntKind.wrap_i64];have:=hfr.out;have:=hln.out;omega
  go_wp2_with (first
   |(at_builtin;refine wpList_append (w0:=w0) rFz _ _ _ rFz _ ii _ Tryz.underlying119 hii hy0 hy1 rFz oQ rFz rFz hoc h8 (rdsl_new _ _ _ 2 1 1 rFz) h63 hby ?_;intro v2 w8 hS8 hne;obtain ⟨ab,an,ac,rfl⟩:=hne (by simp);clear h8 h7 hS7 c2 hoc h63 hby hne)
   |((with_reducible refine at_load ⟨?_⟩);refine wl_load1 aQ rFz pkD nLz evD kRz ?_)|((with_reducible refine at_store ⟨?_⟩);refine wl_store aQ rFz evD pQ upD nLz kRz rFz ?_;intro wS hS))
  refine ⟨rfl,_,res_cell_tmp rfl aQ rFz pkD Tryz.underlying87 rfl kRz,_,rfl,?_,?_⟩
  ·rw [hfin.out];rfl
  ·rw [hfin.out]
   have e:segw L1.l++[.int .i64 n,.int .i64 (8+(b.length:Int))]=segw (L1.l++[(n,8+(b.length:Int))]):=segw_snoc _ _ _
   rw [e]at hS
   exact LogRep.shut2 (lv:= .slice (some ⟨ab,0,none⟩) an ac) (Sat.sb hS)
 have H4:=uQ (H3.out.trans (if_neg he))
 have heb:(e3==0)=false:=beq_false_of_ne he
 clear he H3
 by_cases he:e3=11
 ·subst he
  have H5:=uQ (H4.out.trans (if_pos rfl))
  have e0:w7.cell? ⟨p,0,none⟩=some (ptr m):=hS7.cellP pkD 0 rfl
  go_wp2_with fail
  refine (remove_c HM3.out oQ (Sat.pk aQ) nm).mono ?_
  rintro e w8 ⟨v,rfl,rfl,hS8⟩
  clear hS7 e0
  generalize M3.remove nm=E at *
  obtain ⟨M4,e4⟩:=E
  by_cases he:e4=0
  ·subst he
   go_wp2_with ((with_reducible refine at_store ⟨?_⟩);refine wl_store aQ rFz evD pQ upD nLz kRz rFz ?_;intro wS hS)
   refine ⟨rfl,_,res_cell_tmp rfl aQ rFz pkD Tryz.underlying87 rfl kRz,_,rfl,?_,?_⟩
   ·rw [H5.out];rfl
   ·rw [H5.out];exact LogRep.shut2 (lv:=lv) (Sat.sb hS)
  ·have heb:(e4==0)=false:=beq_false_of_ne he
   have H6:=uQ (H5.out.trans (by rw [if_neg he]))
   clear he
   go_wp2_with ((with_reducible refine at_store ⟨?_⟩);refine wl_store aQ rFz evD pQ upD nLz kRz rFz ?_;intro wS hS)
   refine ⟨rfl,_,res_cell_tmp rfl aQ rFz pkD Tryz.underlying87 rfl kRz,_,rfl,?_,?_⟩
   ·rw [H6.out];rfl
   ·rw [H6.out];exact LogRep.shut2 (lv:=lv) (Sat.sb hS)
 ·have hfin:=uQ (H4.out.trans (if_neg he))
  have heb2:(e3==11)=false:=beq_false_of_ne he
  clear he H4
  go_wp2_with ((with_reducible refine at_store ⟨?_⟩);refine wl_store aQ rFz evD pQ upD nLz kRz rFz ?_;intro wS hS)
  refine ⟨rfl,_,res_cell_tmp rfl aQ rFz pkD Tryz.underlying87 rfl kRz,_,rfl,?_,?_⟩
  ·rw [hfin.out];rfl
  ·rw [hfin.out];exact LogRep.shut2 (lv:=lv) (Sat.sb hS)
end
end Go.Proofs.YtjbhhbnopnmcnaaGreatDoor
namespace Go.Seg
open Go.Med
theorem encode_ne (x:Frm.Ent) (h:(Frm.encode x).2=0):(Frm.encode x).1≠[]:=by
 unfold Frm.encode at *
 split at h
 ·rename_i hc;exact absurd h hc
 ·rename_i hc
  rw [if_neg hc]
  intro e
  have:=congrArg List.length e
  simp [Frm.le_len]at this
theorem Log.append_bad {L:Log}{M:Med}{x:Frm.Ent} (h:(Frm.encode x).2≠0):L.append M x=((L,M),Plc.zero,(Frm.encode x).2):=by
 unfold Log.append;rw [if_pos h]
theorem Log.append_grow {L:Log}{M:Med}{x:Frm.Ent} (h:(Frm.encode x).2=0) (hf:L.fits (Frm.encode x).1.length=true):L.append M x=L.grow M (Frm.encode x).1:=by
 unfold Log.append;rw [if_neg (fun hh=>hh h),if_pos hf]
theorem Log.append_begin {L:Log}{M:Med}{x:Frm.Ent} (h:(Frm.encode x).2=0) (hf:L.fits (Frm.encode x).1.length=false):L.append M x=L.begin M (Frm.encode x).1:=by
 unfold Log.append;rw [if_neg (fun hh=>hh h),if_neg (by rw [hf];decide)]
theorem Log.fits_off {L:Log} (n:Nat) (h:L.on=false):L.fits n=false:=by unfold Log.fits;rw [h];rfl
theorem Log.fits_on {L:Log}{s:Int×Int} (n:Nat) (h:L.on=true) (hl:L.l.getLast?=some s):L.fits n=decide (s.2+n≤L.limit):=by
 unfold Log.fits;rw [h,hl];rfl
end Go.Seg
namespace Go.Proofs.YtjbhhbnopnmcnaaGreatDoor
open Go Go.Sl Go.Med Go.MapKept Go.RowKit
section
variable {w0 w:World}{F R:List HProp}{v bv dv x lv:Value}{q p m K:Nat}{L:Seg.Log}{M:Med}{s:Int×Int}
theorem seg_block2 (hl:L.l.getLast?=some s) (h:Sat w0 w (logPt p m L lv::osl 123 2 lv (segw L.l)::F)) :
  ∃ bk n cap cs,lv = .slice (some ⟨bk,0,none⟩) (n+1) cap∧SegBlk L.l n cap cs∧cs[n * 2]?=some (.int .i64 s.1)∧cs[n * 2+1]?=some (.int .i64 s.2) ∧
   Sat w0 w (logPt p m L (.slice (some ⟨bk,0,none⟩) (n+1) cap)::pt bk (.cells cs 123 (0,0))::F):=seg_block hl h
set_option maxRecDepth 20000 in
theorem lappend_c (e:Frm.Ent) (hk:e.key.length=32) (da:Option Addr) (dc:Nat) (hd:Ro w0 F (rdsl 1 (.slice da e.data.length dc) (bys e.data))) (hH:Ro w0 F Half) (hLd:e.data.length≤1099511627)
  (hL:L.Ok) (hM:M.Ok K) (hKK:K+4≤1099511627776) (h:Sat w0 w (LogRep p m L::MedRep m M::F)) :
  Calls Tryz.prog 43 #[ptr p,.agg (entA e (.slice da e.data.length dc))] w (Rtn fun v w'=>v = .tuple #[plcA (L.append M e).2.1,errno (L.append M e).2.2] ∧
   Sat w0 w' (LogRep p m (L.append M e).1.1::MedRep m (L.append M e).1.2::F)):=by
 obtain ⟨lv,hR⟩:=LogRep.open2 h
 clear h
 have hsz:=entA_size e (.slice da e.data.length dc) hk
 have Hsz:=uQ hsz
 have Hd:=uQ hd;have HH:=uQ hH;have Hk:=uQ hk;have HLd:=uQ hLd
 have HL:=uQ hL;have HM:=uQ hM
 have Hln:=uQ hL.len
 have Hel:=uQ (show (Frm.encode e).1.length≤16425 from Seg.encode_len e hk)
 have Hne:=uQ (Seg.encode_ne e)
 have A0:=uQ (Seg.Log.append_bad (L:=L) (M:=M) (x:=e))
 have A1:=uQ (Seg.Log.append_grow (L:=L) (M:=M) (x:=e))
 have A2:=uQ (Seg.Log.append_begin (L:=L) (M:=M) (x:=e))
 clear hsz hd hH hk hLd hL hM
 go_enter Tryz.func43,Tryz.ntmps43
 go_wp2_with (first
  |((with_reducible refine at_box ⟨?_⟩);refine wl_box aQ rFz (cs:=entA e (.slice da e.data.length dc)) rfl ?_;intro q3 w1 hS1)
  |(refine wl_alloc zPlace aQ rfl ?_;intro q w2 hS2))
 refine (ok_c (Sat.pk aQ)).mono ?_
 rintro ee w3 ⟨v,rfl,rfl,rfl⟩
 clear hS1 hR
 go_wp2_with ((with_reducible refine at_load ⟨?_⟩);refine wl_loadA aQ rFz pkD Tryz.underlying101 rFz (by rw [Hsz.out];kernel_rfl) ?_)
 refine (encode_c e Hk.out da dc (by first|assumption|exact Ro.op (Ro.bsl _ _)|exact Ro.os aQ) (by first|assumption|exact Ro.op (Ro.bsl _ _)|exact Ro.os aQ) hS2 HLd.out).mono ?_
 rintro ee w3 ⟨v,rfl,bv,rfl,⟨ba,bn,bc,rfl⟩,hS3⟩
 clear hS2
 generalize hE:Frm.encode e=E at *
 have HE:=uQ hE
 clear hE
 obtain ⟨b,e1⟩:=E
 have Hel2:Hid (b.length≤16425):=Hel
 by_cases he:e1=0
 rotate_left
 ·have heb:(e1==0)=false:=beq_false_of_ne he
  have hfin:=uQ (A0.out he)
  clear he
  go_wp2_with ((with_reducible refine at_store ⟨?_⟩);refine wl_store aQ rFz evD pQ upD nLz kRz rFz ?_;intro wS hS)
  refine ⟨rfl,_,res_cell_tmp rfl aQ rFz pkD Tryz.underlying87 rfl kRz,_,rfl,?_,?_⟩
  ·rw [hfin.out];rfl
  ·rw [hfin.out];exact LogRep.shut2 (lv:=lv) (Sat.sb hS)
 subst he
 have hbn:bn=b.length:=by
  obtain ⟨a',n',c',he,hl,_⟩:=Sat.rd hS3
  cases he
  rw [bys_len,Nat.mul_one]at hl
  exact hl.symm
 subst hbn
 have Hb0:=uQ (Hne.out rfl)
 clear A0 Hne
 cases hon:L.on
 ·have hf:=Seg.Log.fits_off b.length hon
  have hfin:=uQ (A2.out rfl hf)
  have c3:w3.cell? ⟨p,3,none⟩=some (.bool false):=hS3.cellP pkD 3 (by rw [← hon];rfl)
  clear hf A1 A2 hon
  go_wp2_with fail
  have hS4:=hS3.drew
  have c3':w3.drew.cell? ⟨p,3,none⟩=some (.bool false):=c3
  go_region
  clear c3 c3'
  have hS5:Sat w0 _ (LogRep p m L::MedRep m M::_):=LogRep.shut2 (lv:=lv) (hS4.sb)
  go_wp2_with fail
  refine (begin_c HL.out HM.out hKK b Hb0.out (by have:=Hel2.out;omega) (by first|assumption|exact Ro.op (Ro.bsl _ _)|exact Ro.os aQ) hS5).mono ?_
  rintro ee w5 ⟨v,rfl,rfl,hS6⟩
  clear hS4 hS5 hS3
  go_wp2_with ((with_reducible refine at_store ⟨?_⟩);refine wl_store aQ rFz evD pQ upD nLz kRz rFz ?_;intro wS hS)
  refine ⟨rfl,_,res_cell_tmp rfl aQ rFz pkD Tryz.underlying87 rfl kRz,_,rfl,?_,?_⟩
  ·rw [hfin.out];rfl
  ·rw [hfin.out];exact Sat.sb hS
 ·obtain ⟨s,hl⟩:=HL.out.last hon
  obtain ⟨bk,n,cap,cs,rfl,hb,c0,c1,hB⟩:=seg_block2 hl (hS3.sb)
  have hf:=Seg.Log.fits_on b.length hon hl
  have hs:=HL.out.sizes s (List.mem_of_getLast? hl)
  have hlim:=HL.out.limit
  have hn:=hb.len
  have hln:=Hln.out
  have hn0:(n:Int)<(n:Int)+1:=oQ
  have hwn:IntKind.i64.wrap (n:Int)=(n:Int):=by rw [IntKind.wrap_i64];omega
  have hwz:IntKind.i64.wrap (s.2+(b.length:Int))=s.2+(b.length:Int):=by rw [IntKind.wrap_i64];have:=Hel2.out;omega
  have g1:w3.drew.cell? ⟨p,1,none⟩=some (.int .i64 L.limit):=hB.drew.cellP pkD 1 rfl
  have g2:w3.drew.cell? ⟨p,2,none⟩=some (.slice (some ⟨bk,0,none⟩) (n+1) cap):=hB.drew.cellP pkD 2 rfl
  have g3:w3.drew.cell? ⟨p,3,none⟩=some (.bool true):=hB.drew.cellP pkD 3 (by rw [← hon];rfl)
  have g4:w3.drew.cell? ⟨bk,n * 2+1,none⟩=some (.int .i64 s.2):=hB.drew.cellP pkD _ c1
  have Hl:=uQ hl;have Hb:=uQ hb;have Hs:=uQ hs
  clear hs hlim hn hln hl hb c0 c1 hon hB
  by_cases hfit:s.2+(b.length:Int)≤L.limit
  ·have hfd:decide (s.2+(b.length:Int)≤L.limit)=true:=decide_eq_true hfit
   have hfin:=uQ (A1.out rfl (hf.trans hfd))
   clear hf hfd A1 A2
   go_wp2_with fail
   have hS4:=hS3.drew
   go_region
   clear g1 g2 g3 g4
   have hS5:Sat w0 _ (LogRep p m L::MedRep m M::_):=LogRep.shut2 (lv:= .slice (some ⟨bk,0,none⟩) (n+1) cap) (hS4.sb)
   go_wp2_with fail
   refine (grow_c Hl.out Hs.out HM.out oQ Hln.out b (by have:=Hel2.out;omega) (by first|assumption|exact Ro.op (Ro.bsl _ _)|exact Ro.os aQ) hS5).mono ?_
   rintro ee w5 ⟨v,rfl,rfl,hS6⟩
   clear hS4 hS5 hS3
   go_wp2_with ((with_reducible refine at_store ⟨?_⟩);refine wl_store aQ rFz evD pQ upD nLz kRz rFz ?_;intro wS hS)
   refine ⟨rfl,_,res_cell_tmp rfl aQ rFz pkD Tryz.underlying87 rfl kRz,_,rfl,?_,?_⟩
   ·rw [hfin.out];rfl
   ·rw [hfin.out];exact Sat.sb hS
  ·have hfd:decide (s.2+(b.length:Int)≤L.limit)=false:=decide_eq_false hfit
   have hfin:=uQ (A2.out rfl (hf.trans hfd))
   clear hf hfd A1 A2
   go_wp2_with fail
   have hS4:=hS3.drew
   go_region
   clear g1 g2 g3 g4
   have hS5:Sat w0 _ (LogRep p m L::MedRep m M::_):=LogRep.shut2 (lv:= .slice (some ⟨bk,0,none⟩) (n+1) cap) (hS4.sb)
   go_wp2_with fail
   refine (begin_c HL.out HM.out hKK b Hb0.out (by have:=Hel2.out;omega) (by first|assumption|exact Ro.op (Ro.bsl _ _)|exact Ro.os aQ) hS5).mono ?_
   rintro ee w5 ⟨v,rfl,rfl,hS6⟩
   clear hS4 hS5 hS3
   go_wp2_with ((with_reducible refine at_store ⟨?_⟩);refine wl_store aQ rFz evD pQ upD nLz kRz rFz ?_;intro wS hS)
   refine ⟨rfl,_,res_cell_tmp rfl aQ rFz pkD Tryz.underlying87 rfl kRz,_,rfl,?_,?_⟩
   ·rw [hfin.out];rfl
   ·rw [hfin.out];exact Sat.sb hS
end
end Go.Proofs.YtjbhhbnopnmcnaaGreatDoor
namespace Go.Seg
open Go.Med
theorem Log.grow_med {L:Log}{M:Med}{K:Nat} (h:M.Ok K) (b:Bs):(L.grow M b).1.2.Ok (K+1):=by
 unfold Log.grow
 split;· exact h.mono (Nat.le_succ K)
 split <;> exact h.append _ _
theorem Log.begin1_med {L:Log}{M:Med}{K:Nat} (h:M.Ok K) (b:Bs):(L.begin1 M b).1.2.Ok (K+3):=by
 have h1:=h.create (name L.next)
 have h2:=h1.append (name L.next) (mag++b)
 have h3:=h2.remove (name L.next)
 unfold Log.begin1
 split;· exact h.mono oQ
 split;· exact h1.mono oQ
 split;· exact h2.mono oQ
 split;· exact h3
 exact h2.mono oQ
theorem Log.append_med {L:Log}{M:Med}{K:Nat} (h:M.Ok K) (x:Frm.Ent):(L.append M x).1.2.Ok (K+4):=by
 unfold Log.append
 split;· exact h.mono oQ
 split;· exact (Log.grow_med h _).mono oQ
 unfold Log.begin
 split
 ·exact Log.begin1_med (Log.shut_med h) _
 ·exact (Log.shut_med h).mono oQ
theorem Log.commit_eq (L:Log) (M:Med):L.commit M=if (L.append M comEnt).2.2≠0 then ((L.append M comEnt).1,0,(L.append M comEnt).2.2)
 else if ((L.append M comEnt).1.2.sync (name (L.append M comEnt).2.1.seg)).2≠0 then (((L.append M comEnt).1.1,((L.append M comEnt).1.2.sync (name (L.append M comEnt).2.1.seg)).1),0,((L.append M comEnt).1.2.sync (name (L.append M comEnt).2.1.seg)).2)
 else if (((L.append M comEnt).1.2.sync (name (L.append M comEnt).2.1.seg)).1.syncDir).2≠0 then (((L.append M comEnt).1.1,(((L.append M comEnt).1.2.sync (name (L.append M comEnt).2.1.seg)).1.syncDir).1),0,(((L.append M comEnt).1.2.sync (name (L.append M comEnt).2.1.seg)).1.syncDir).2)
 else (({ (L.append M comEnt).1.1 with on:=false,fresh:=0 },(((L.append M comEnt).1.2.sync (name (L.append M comEnt).2.1.seg)).1.syncDir).1),(L.append M comEnt).2.1.seg,0):=rfl
end Go.Seg
namespace Go.Proofs.YtjbhhbnopnmcnaaGreatDoor
open Go Go.Sl Go.Med Go.MapKept Go.RowKit
section
variable {w0 w:World}{F R:List HProp}{v bv dv x lv:Value}{q p m K:Nat}{L:Seg.Log}{M:Med}{s:Int×Int}
set_option maxRecDepth 20000 in
theorem lcommit_c (hH:Ro w0 F Half) (hL:L.Ok) (hM:M.Ok K) (hKK:K+6≤1099511627776) (h:Sat w0 w (LogRep p m L::MedRep m M::F)) :
  Calls Tryz.prog 67 #[ptr p] w (Rtn fun v w'=>v = .tuple #[.int .i64 (L.commit M).2.1,errno (L.commit M).2.2] ∧
   Sat w0 w' (LogRep p m (L.commit M).1.1::MedRep m (L.commit M).1.2::F)):=by
 have hap:=lappend_c Seg.comEnt rfl none 0 (fun w _=>rdsl_nil 1 0 w) hH dCz hL hM oQ h
 have Hg:=uQ (Seg.Log.commit_eq L M)
 have HL:=uQ (hL.append M Seg.comEnt rfl)
 have HM:=uQ (Seg.Log.append_med (L:=L) hM Seg.comEnt)
 have HH:=uQ hH
 clear hL hM h hH
 generalize L.append M Seg.comEnt=A at *
 obtain ⟨⟨L1,M1⟩,pl,e1⟩:=A
 go_enter Tryz.func67,Tryz.ntmps67
 go_wp2_with fail
 refine hap.mono ?_
 rintro e w1 ⟨v,rfl,rfl,hS1⟩
 clear hap
 by_cases he:e1=0
 rotate_left
 ·have heb:(e1==0)=false:=beq_false_of_ne he
  have hfin:=uQ (Hg.out.trans (if_pos he))
  clear he
  go_wp2_with (first|(refine wl_alloc zPlace aQ rfl ?_;intro q w2 hS2)|((with_reducible refine at_store ⟨?_⟩);refine wl_store aQ rFz evD pQ upD nLz kRz rFz ?_;intro wS hS))
  go_ret2
  refine ⟨.tuple #[.int .i64 0,errno e1],rfl,?_,?_⟩
  ·rw [hfin.out]
  ·rw [hfin.out];exact Sat.sb hS
 subst he
 have H1:=uQ (Hg.out.trans (if_neg (fun h=>h rfl)))
 clear Hg
 go_wp2_with (first|(refine wl_alloc zPlace aQ rfl ?_;intro q w2 hS2)|((with_reducible refine at_store ⟨?_⟩);refine wl_store aQ rFz evD pQ upD nLz kRz rFz ?_;intro wS hS))
 have hS1:=hS
 clear hS hS2
 obtain ⟨lv,hR⟩:=LogRep.open2 (Sat.pk aQ)
 clear hS1
 go_wp2_with fail
 refine wpL_begin [7,8] (fun w'=>w'.cell? ⟨p,0,none⟩=some (ptr m)∧w'.cell? ⟨q,0,none⟩=some (.int .i64 pl.seg)) kRz ?_
 have hG:(World.drew _).cell? ⟨p,0,none⟩=some (ptr m)∧(World.drew _).cell? ⟨q,0,none⟩=some (.int .i64 pl.seg):=⟨hR.drew.cellP pkD 0 rfl,hR.drew.cellP pkD 0 rfl⟩
 refine rP 0 ?_ (y:=mvQ)
 refine rP 1 ?_ (y:=nlQ)
 refine rP 2 ?_ (y:=flQ)
 refine rt 3 (h:=?_)
 refine rP 4 ?_ (y:=flQ)
 refine rt 5 (h:=?_)
 clear hG
 refine rg_eff 6 evD kRz (fun K hK=>?_)
 (refine eff_call1 kRz evD ?_)
 refine (sname_c pl.seg hR.drew).mono ?_
 rintro e w3 ⟨v,rfl,rfl,hS3⟩
 refine hK _ _ (.inr (.inl ⟨hS3.cellP pkD 0 rfl,hS3.cellP pkD 0 rfl⟩)) ?_
 clear hK K
 refine rg_eff 7 evD kRz (fun K hK=>?_)
 (refine eff_call2 kRz evD evD ?_)
 refine (sync_c HM.out (Sat.pk aQ) _).mono ?_
 rintro e w4 ⟨v,rfl,rfl,hS4⟩
 refine hK _ _ (.inl rfl) ?_
 clear hK K hS3 hR
 refine rP 8 ?_ (y:=asQ)
 refine wpL_done kRz ?_
 have HM2:=uQ (HM.out.sync (Seg.name pl.seg))
 generalize M1.sync (Seg.name pl.seg)=B at *
 obtain ⟨M2,e2⟩:=B
 by_cases he:e2=0
 rotate_left
 ·have heb:(e2==0)=false:=beq_false_of_ne he
  have hfin:=uQ (H1.out.trans (if_pos he))
  clear he
  go_wp2_with fail
  go_ret2
  refine ⟨.tuple #[.int .i64 0,errno e2],rfl,?_,?_⟩
  ·rw [hfin.out]
  ·rw [hfin.out];exact LogRep.shut2 (lv:=lv) (Sat.sb hS4)
 subst he
 have H2:=uQ (H1.out.trans (if_neg (fun h=>h rfl)))
 clear H1
 have e0:w4.cell? ⟨p,0,none⟩=some (ptr m):=hS4.cellP pkD 0 rfl
 go_wp2_with fail
 refine (syncDir_c HM2.out (Sat.pk aQ)).mono ?_
 rintro e w5 ⟨v,rfl,rfl,hS5⟩
 clear hS4 e0
 generalize M2.syncDir=C at *
 obtain ⟨M3,e3⟩:=C
 by_cases he:e3=0
 rotate_left
 ·have heb:(e3==0)=false:=beq_false_of_ne he
  have hfin:=uQ (H2.out.trans (if_pos he))
  clear he
  go_wp2_with fail
  go_ret2
  refine ⟨.tuple #[.int .i64 0,errno e3],rfl,?_,?_⟩
  ·rw [hfin.out]
  ·rw [hfin.out];exact LogRep.shut2 (lv:=lv) (Sat.sb hS5)
 subst he
 have hfin:=uQ (H2.out.trans (if_neg (fun h=>h rfl)))
 clear H2
 go_wp2_with (first|((with_reducible refine at_load ⟨?_⟩);refine wl_load1 aQ rFz pkD nLz evD kRz ?_)|((with_reducible refine at_store ⟨?_⟩);refine wl_store aQ rFz evD pQ upD nLz kRz rFz ?_;intro wS hS))
 go_ret2
 refine ⟨.tuple #[.int .i64 pl.seg,errno 0],rfl,?_,?_⟩
 ·rw [hfin.out]
 ·rw [hfin.out];exact LogRep.shut2 (lv:=lv) (Sat.sb hS)
end
end Go.Proofs.YtjbhhbnopnmcnaaGreatDoor
namespace Go.Seg
def idx (l:List (Int×Int)) (n:Int):Int:=match l.findIdx? (fun s=>s.1==n) with
 |some i=>i
 |none=> -1
theorem find_idx (L:Log) (n:Int):L.find n=idx L.l n:=rfl
theorem idx_at {l:List (Int×Int)}{n:Int}{i:Nat}{s:Int×Int} (hs:l[i]?=some s) (hn:s.1=n) (hp:∀ (j:Nat) (t:Int×Int),j<i→l[j]?=some t→t.1≠n):idx l n=i:=by
 unfold idx
 have:l.findIdx? (fun s=>s.1==n)=some i:=by
  rw [List.findIdx?_eq_some_iff_getElem]
  obtain ⟨h1,h2⟩:=List.getElem?_eq_some_iff.1 hs
  refine ⟨h1,by rw [h2];simpa using hn,fun j hj=>?_⟩
  have:=hp j _ hj (List.getElem?_eq_getElem oQ)
  simpa using this
 rw [this]
theorem idx_no {l:List (Int×Int)}{n:Int} (hp:∀ (j:Nat) (t:Int×Int),j<l.length→l[j]?=some t→t.1≠n):idx l n = -1:=by
 unfold idx
 have:l.findIdx? (fun s=>s.1==n)=none:=by
  rw [List.findIdx?_eq_none_iff]
  intro t ht
  obtain ⟨j,hj,rfl⟩:=List.getElem_of_mem ht
  have:=hp j _ hj (List.getElem?_eq_getElem hj)
  simpa using this
 rw [this]
end Go.Seg
namespace Go.Proofs.YtjbhhbnopnmcnaaGreatDoor
open Go Go.Sl Go.Med Go.MapKept Go.RowKit
section
variable {w0 w:World}{F R:List HProp}{v bv dv x lv:Value}{q p m K:Nat}{L:Seg.Log}{M:Med}{s:Int×Int}
theorem find1_c (s:Int×Int) (n:Int) (h:Sat w0 w F) (hq:Ro w0 F fun w=>w.cell? ⟨q,0,none⟩=some (.int .i64 n)) :
  Calls Tryz.prog 126 #[.agg #[.int .i64 s.1,.int .i64 s.2],ptr q] w (Rtn fun v w'=>v = .bool (s.1==n)∧Sat w0 w' F):=by
 go_enter Tryz.func126,Tryz.ntmps126
 go_wp2_with (first|(((with_reducible refine at_box ⟨?_⟩);refine wl_box aQ evD evD ?_;intro bB wB hB);have c0:wB.cell? ⟨q,0,none⟩=some (.int .i64 n):=hq _ hB.drop)|((with_reducible refine at_load ⟨?_⟩);refine wl_load1 aQ rFz pkD nLz evD kRz ?_))
 go_ret
 exact ⟨_,rfl,rfl,hB.drop⟩
theorem idxf_c (l:List (Int×Int)) (n:Int) (hln:l.length≤1048576) (h:Sat w0 w (osl 123 2 lv (segw l)::F)) (hq:Ro w0 F fun w=>w.cell? ⟨q,0,none⟩=some (.int .i64 n)) :
  Calls Tryz.prog 125 #[lv,.func (.func 126) #[] #[ptr q]] w (Rtn fun v w'=>v = .int .i64 (Seg.idx l n)∧Sat w0 w' (osl 123 2 lv (segw l)::F)):=by
 rcases h.osl_cases with ⟨rfl,hx,hF⟩|⟨b,n',cap,cs,rfl,hll,hn',hc,hcm,htk,hp⟩
 ·have hl:l=[]:=by
   cases l with
   |nil=>rfl
   |cons a l=>simp [segw]at hx
  subst hl
  go_enter Tryz.func125,Tryz.ntmps125
  go_wp2_with fail
  go_loopg [8] 0 (fun g iq wr=>iq = .int .i64 0∧wr=w)
  case atStart=>exact ⟨rfl,rfl⟩
  case round=>
   obtain ⟨rfl,rfl⟩:=hrel
   go_wp2
   go_ret
   exact ⟨_,rfl,rfl,h⟩
 ·rw [segw_len]at hll
  obtain rfl:n'=l.length:=by omega
  have hcl:∀ (i:Nat) (s:Int×Int),l[i]?=some s→cs[i * 2]?=some (.int .i64 s.1)∧cs[i * 2+1]?=some (.int .i64 s.2):=by
   intro i s hs
   obtain ⟨h1,h2⟩:=segw_at _ _ _ hs
   rw [Nat.mul_comm i 2]
   exact ⟨take_get htk h1,take_get htk h2⟩
  have Hcl:=uQ hcl
  have Hend:=uQ (show ∀ wr,Sat w0 wr (pt b (.cells cs 123 (0,0))::F)→Sat w0 wr (osl 123 2 (.slice (some ⟨b,0,none⟩) l.length cap) (segw l)::F) from fun wr hS=>Sat.osl_of_pt hS (by rw [segw_len];omega) hn' hc hcm htk)
  have Hq:=uQ hq
  clear hcl hn' hc hcm htk h hq hll
  go_enter Tryz.func125,Tryz.ntmps125
  go_wp2_with fail
  go_loopg [8] l.length (fun g iq wr=>∃ i:Nat,g=l.length - i∧i≤l.length∧iq = .int .i64 i∧Sat w0 wr (pt b (.cells cs 123 (0,0))::F)∧Hid (∀ (j:Nat) (t:Int×Int),j<i→l[j]?=some t→t.1≠n))
  case atStart=>exact ⟨0,rfl,Nat.zero_le _,rfl,hp,uQ fun j t hj=>absurd hj (Nat.not_lt_zero j)⟩
  case round=>
   obtain ⟨i,rfl,hi,rfl,hS,Hp⟩:=hrel
   clear hp
   by_cases hlt:i<l.length
   ·obtain ⟨s,hs⟩:∃ s,l[i]?=some s:=⟨_,List.getElem?_eq_getElem hlt⟩
    obtain ⟨d0,d1⟩:=Hcl.out i s hs
    have Hs:=uQ hs;have Hd0:=uQ d0;have Hd1:=uQ d1;have Hlt:=uQ hlt
    have hic:(i:Int)<(l.length:Int):=oQ
    have hwi:=iwQ (i:=i)
    clear hs d0 d1 hlt
    have hfn:=find1_c (q:=q) s n hS (Ro.os Hq.out)
    go_wp2_with ((with_reducible refine at_load ⟨?_⟩);refine wl_loadN (b:=b) (o:=i * 2) [.int .i64 s.1,.int .i64 s.2] aQ rFz pkD (fun j v hj=>by
     rcases j with _|_|j
     ·cases hj;exact Hd0.out
     ·cases hj;exact Hd1.out
     ·simp at hj) Tryz.underlying123 rfl kRz ?_)
    refine hfn.mono ?_
    rintro e w2 ⟨v,rfl,rfl,hS2⟩
    clear hfn hS
    by_cases hsn:s.1=n
    ·have hsb:(s.1==n)=true:=by simpa using hsn
     have Hfin:=uQ (Seg.idx_at Hs.out hsn Hp.out)
     clear hsn
     go_wp2
     go_ret
     exact ⟨.int .i64 i,rfl,by rw [Hfin.out],Hend.out _ hS2⟩
    ·have hsb:(s.1==n)=false:=by simpa using hsn
     have Hp2:=uQ (show ∀ (j:Nat) (t:Int×Int),j<i+1→l[j]?=some t→t.1≠n by
      intro j t hj ht
      by_cases hji:j<i
      ·exact Hp.out j t hji ht
      ·obtain rfl:j=i:=by omega
       rw [Hs.out]at ht;cases ht;exact hsn)
     clear hsn Hp
     go_wp2
     go_roundg (l.length - (i+1))
     case measure=>have:=Hlt.out;omega
     case rel=>exact ⟨i+1,rfl,Nat.succ_le_of_lt Hlt.out,by first|rfl|go_num,hS2,Hp2⟩
   ·obtain rfl:i=l.length:=by omega
    have hic:¬ (l.length:Int)<(l.length:Int):=oQ
    have Hfin:=uQ (Seg.idx_no Hp.out)
    clear hi hlt Hp
    go_wp2
    go_ret
    exact ⟨.int .i64 (-1),rfl,by rw [Hfin.out],Hend.out _ hS⟩
theorem lfind_c (hL:L.Ok) (n:Int) (h:Sat w0 w (LogRep p m L::F)) :
  Calls Tryz.prog 81 #[ptr p,.int .i64 n] w (Rtn fun v w'=>v = .int .i64 (L.find n)∧Sat w0 w' (LogRep p m L::F)):=by
 obtain ⟨lv,hR⟩:=LogRep.open2 h
 clear h
 have Hln:=uQ hL.len
 rw [Seg.find_idx]
 clear hL
 go_enter Tryz.func81,Tryz.ntmps81
 go_wp2_with ((with_reducible refine at_box ⟨?_⟩);refine wl_box aQ evD evD ?_;intro bB wB hB)
 refine (ok_c (Sat.pk aQ)).mono ?_
 rintro e w2 ⟨v,rfl,rfl,rfl⟩
 clear hR
 go_wp2_with ((with_reducible refine at_load ⟨?_⟩);refine wl_load1 aQ rFz pkD nLz evD kRz ?_)
 refine (idxf_c (q:=bB) (lv:=lv) L.l n Hln.out (Sat.pk aQ) (fun w hw=>hw.cellP pkD 0 rfl)).mono ?_
 rintro e w3 ⟨v,rfl,rfl,hS3⟩
 clear hB
 go_wp2
 go_ret
 exact ⟨_,rfl,rfl,LogRep.shut2 (lv:=lv) (Sat.sb hS3)⟩
theorem lsync_c (hM:M.Ok K) (h:Sat w0 w (LogRep p m L::MedRep m M::F)) :
  Calls Tryz.prog 62 #[ptr p] w (Rtn fun v w'=>v=errno M.syncDir.2∧Sat w0 w' (LogRep p m L::MedRep m M.syncDir.1::F)):=by
 obtain ⟨lv,hR⟩:=LogRep.open2 h
 clear h
 go_enter Tryz.func62,Tryz.ntmps62
 go_wp2_with fail
 refine (ok_c (Sat.pk aQ)).mono ?_
 rintro e w2 ⟨v,rfl,rfl,rfl⟩
 go_wp2_with ((with_reducible refine at_load ⟨?_⟩);refine wl_load1 aQ rFz pkD nLz evD kRz ?_)
 refine (syncDir_c hM (Sat.pk aQ)).mono ?_
 rintro e w3 ⟨v,rfl,rfl,hS3⟩
 go_wp2
 go_ret
 exact ⟨_,rfl,rfl,LogRep.shut2 (lv:=lv) (Sat.sb hS3)⟩
theorem find_neg (n:Int):(L.at n=none∧L.find n = -1)∨∃ i,L.at n=some i∧L.find n=i:=by
 unfold Seg.Log.find
 cases L.at n with
 |none=>exact .inl ⟨rfl,rfl⟩
 |some i=>exact .inr ⟨i,rfl,rfl⟩
set_option maxRecDepth 20000 in
theorem lbytes_c (hL:L.Ok) (hM:M.Ok K) (n:Int) (h:Sat w0 w (LogRep p m L::MedRep m M::F)) :
  Calls Tryz.prog 97 #[ptr p,.int .i64 n] w (Rtn fun v w'=>∃ bv,v = .tuple #[bv,errno (L.bytes M n).2]∧Sat w0 w' (bsl bv (L.bytes M n).1::LogRep p m L::MedRep m M::F)):=by
 obtain ⟨lv,hR⟩:=LogRep.open2 h
 have hok:=ok_c hR
 have hf:=lfind_c hL n h
 rcases find_neg (L:=L) n with ⟨ha,hb⟩|⟨i,ha,hb⟩
 ·have Hfin:=uQ (show L.bytes M n=([],9) by unfold Seg.Log.bytes;rw [ha])
  rw [hb]at hf
  clear ha hb hL h hR
  go_enter Tryz.func97,Tryz.ntmps97
  go_wp2_with fail
  refine hok.mono ?_
  rintro e w2 ⟨v,rfl,rfl,rfl⟩
  clear hok
  go_wp2_with fail
  refine hf.mono ?_
  rintro e w2 ⟨v,rfl,rfl,hS2⟩
  clear hf
  go_wp2
  go_ret2
  rw [Hfin.out]
  exact ⟨_,rfl,.slice none 0 0,rfl,Sat.osl_nil.2 hS2⟩
 ·rw [hb]at hf
  have Hfin:=uQ (show L.bytes M n=M.all (Seg.name n) by unfold Seg.Log.bytes;rw [ha])
  have hi0:(0:Int)≤(i:Int):=oQ
  have hd:decide ((i:Int)<0)=false:=decide_eq_false oQ
  clear ha hb hL h hR lv
  go_enter Tryz.func97,Tryz.ntmps97
  go_wp2_with fail
  refine hok.mono ?_
  rintro e w2 ⟨v,rfl,rfl,rfl⟩
  clear hok
  go_wp2_with fail
  refine hf.mono ?_
  rintro e w2 ⟨v,rfl,rfl,hS2⟩
  clear hf
  obtain ⟨lv,hR⟩:=LogRep.open2 hS2
  clear hS2
  go_wp2_with fail
  refine wpL_begin [6,7,8,9,10] (fun w'=>w'.cell? ⟨p,0,none⟩=some (ptr m)) kRz ?_
  have hG:w2.drew.cell? ⟨p,0,none⟩=some (ptr m):=hR.drew.cellP pkD 0 rfl
  refine rP 0 ?_ (y:=mvQ)
  refine rP 1 ?_ (y:=nlQ)
  refine rP 2 ?_ (y:=flQ)
  refine rt 3 (h:=?_)
  refine rP 4 ?_ (y:=mvQ)
  clear hG
  refine rg_eff 5 evD kRz (fun K hK=>?_)
  (refine eff_call1 kRz evD ?_)
  refine (sname_c n hR.drew).mono ?_
  rintro e w3 ⟨v,rfl,rfl,hS3⟩
  refine hK _ _ (.inr (.inl (hS3.cellP pkD 0 rfl))) ?_
  clear hK K hR
  refine rg_eff 6 evD kRz (fun K hK=>?_)
  (refine eff_call2 kRz evD evD ?_)
  refine (all_c hM (Sat.pk aQ) _).mono ?_
  rintro e w4 ⟨v,rfl,bv,rfl,hS4⟩
  refine hK _ _ (.inl rfl) ?_
  clear hK K hS3
  refine rP 7 ?_ (y:=(yl_extract evD rnD))
  refine rP 8 ?_ (y:=(yl_extract evD rnD))
  refine rP 9 ?_ (y:=asQ)
  refine rP 10 ?_ (y:=asQ)
  refine wpL_done kRz ?_
  go_wp2
  go_ret2
  rw [Hfin.out]
  exact ⟨_,rfl,bv,rfl,Sat.sub (LogRep.shut2 (lv:=lv) (hS4.sb)) sbD⟩
end
end Go.Proofs.YtjbhhbnopnmcnaaGreatDoor
namespace Go.Seg
def Log.segs (L:Log):List Int:=L.l.map (·.1)
end Go.Seg
namespace Go.Proofs.YtjbhhbnopnmcnaaGreatDoor
open Go Go.Sl Go.Med Go.MapKept Go.RowKit
theorem zSeg:zeroB Tryz.prog 123=some (.agg #[.int .i64 0,.int .i64 0]):=by kernel_rfl
section
variable {w0 w:World}{F R:List HProp}{v bv dv x lv:Value}{q p m K:Nat}{L:Seg.Log}{M:Med}{s:Int×Int}
theorem ints_app (l k:List Int):ints (l++k)=ints l++ints k:=by unfold ints;rw [List.map_append]
theorem ints_length (l:List Int):(ints l).length=l.length:=by unfold ints;rw [List.length_map]
theorem segs_open (hln:L.l.length≤1048576) (h:Sat w0 w (logPt p m L lv::osl 123 2 lv (segw L.l)::F)) :
  (L.l=[]∧lv = .slice none 0 0)∨∃ b cap cs,lv = .slice (some ⟨b,0,none⟩) L.l.length cap∧(∀ (i:Nat) (s:Int×Int),L.l[i]?=some s→cs[i * 2]?=some (.int .i64 s.1)∧cs[i * 2+1]?=some (.int .i64 s.2)) ∧
   Sat w0 w (pt b (.cells cs 123 (0,0))::logPt p m L lv::F)∧∀ w1 G,Sat w0 w1 (pt b (.cells cs 123 (0,0))::G)→Sat w0 w1 (osl 123 2 lv (segw L.l)::G):=by
 have h':=h.pick1
 rcases h'.osl_cases with ⟨rfl,hx,hF⟩|⟨b,n',cap,cs,rfl,hll,hn',hc,hcm,htk,hp⟩
 ·left
  refine ⟨?_,rfl⟩
  cases hl:L.l with
  |nil=>rfl
  |cons a l=>rw [hl]at hx;simp [segw]at hx
 ·right
  rw [segw_len]at hll
  obtain rfl:n'=L.l.length:=by omega
  refine ⟨b,cap,cs,rfl,?_,hp,fun w1 G hS=>Sat.osl_of_pt hS (by rw [segw_len];omega) hn' hc hcm htk⟩
  intro i s hs
  obtain ⟨h1,h2⟩:=segw_at _ _ _ hs
  rw [Nat.mul_comm i 2]
  exact ⟨take_get htk h1,take_get htk h2⟩
set_option maxRecDepth 20000 in
theorem lsegs_c (hL:L.Ok) (h:Sat w0 w (LogRep p m L::F)) :
  Calls Tryz.prog 85 #[ptr p] w (Rtn fun v w'=>Sat w0 w' (osl 3 1 v (ints L.segs)::LogRep p m L::F)):=by
 obtain ⟨lv,hR⟩:=LogRep.open2 h
 clear h
 have hok:=ok_c hR
 rcases segs_open hL.len hR with ⟨hnil,rfl⟩|⟨b,cap,cs,rfl,hcl,hp,hend⟩
 ·have Hfin:=uQ (show L.segs=[] by unfold Seg.Log.segs;rw [hnil];rfl)
  clear hnil hL
  go_enter Tryz.func85,Tryz.ntmps85
  go_wp2_with fail
  refine hok.mono ?_
  rintro e w2 ⟨v,rfl,rfl,rfl⟩
  clear hok
  go_wp2_with ((with_reducible refine at_load ⟨?_⟩);refine wl_load1 aQ rFz pkD nLz evD kRz ?_)
  go_loopg [14,3] 0 (fun g iq ov wr=>iq = .int .i64 0∧ov = .slice none 0 0∧wr=w)
  case atStart=>exact ⟨rfl,rfl,rfl⟩
  case round=>
   obtain ⟨rfl,rfl,rfl⟩:=hrel
   go_wp2
   go_ret
   rw [Hfin.out]
   exact ⟨_,rfl,Sat.osl_nil.2 (LogRep.shut2 hR)⟩
 ·have Hcl:=uQ hcl
  have Hend:=uQ hend
  have Hln:=uQ hL.len
  clear hcl hend hL hR
  go_enter Tryz.func85,Tryz.ntmps85
  go_wp2_with fail
  refine hok.mono ?_
  rintro e w2 ⟨v,rfl,rfl,rfl⟩
  clear hok
  go_wp2_with ((with_reducible refine at_load ⟨?_⟩);refine wl_load1 aQ rFz pkD nLz evD kRz ?_)
  go_loopg [14,3] L.l.length (fun g iq ov wr=>∃ i:Nat,g=L.l.length - i∧i≤L.l.length∧iq = .int .i64 i ∧
   Sat w0 wr (osl 3 1 ov (ints ((L.l.take i).map (·.1)))::pt b (.cells cs 123 (0,0))::logPt p m L (.slice (some ⟨b,0,none⟩) L.l.length cap)::F))
  case atStart=>exact ⟨0,rfl,Nat.zero_le _,rfl,Sat.osl_nil.2 hp⟩
  case round=>
   obtain ⟨i,rfl,hi,rfl,hS⟩:=hrel
   clear hp
   by_cases hlt:i<L.l.length
   ·obtain ⟨s,hs⟩:∃ s,L.l[i]?=some s:=⟨_,List.getElem?_eq_getElem hlt⟩
    have Htk:=uQ (show ints ((L.l.take i).map (·.1))++[.int .i64 s.1]=ints ((L.l.take (i+1)).map (·.1)) by
     rw [List.take_add_one,hs,List.map_append,ints_app];rfl)
    have hlen:(ints ((L.l.take i).map (·.1))).length≤2147483648:=by
     rw [ints_length,List.length_map,List.length_take];have:=Hln.out;omega
    obtain ⟨d0,d1⟩:=Hcl.out i s hs
    have Hd0:=uQ d0;have Hd1:=uQ d1;have Hlt:=uQ hlt
    have hic:(i:Int)<(L.l.length:Int):=oQ
    have hwi:IntKind.i64.wrap ((i:Int)+1)=(i:Int)+1:=IntWalk.i64_in _ (by have:=Hln.out;omega)
    clear hs d0 d1 hlt
    go_wp2_with (first
     |((with_reducible refine at_load ⟨?_⟩);refine wl_loadN (b:=b) (o:=i * 2) [.int .i64 s.1,.int .i64 s.2] aQ rFz pkD (fun j v hj=>by
       rcases j with _|_|j
       ·cases hj;exact Hd0.out
       ·cases hj;exact Hd1.out
       ·simp at hj) Tryz.underlying123 rfl kRz ?_)
     |(refine wl_alloc zSeg aQ rfl ?_;intro q3 w3 hS3)
     |((with_reducible refine at_store ⟨?_⟩);refine wl_store aQ rFz evD pQ upD nLz kRz rFz ?_;intro wS hS)|((with_reducible refine at_load ⟨?_⟩);refine wl_load1 aQ rFz pkD nLz evD kRz ?_)|((with_reducible refine at_build1 ⟨?_⟩);refine wl_build1 (e:=3) (sz:=1) (by':=8) kRz aQ evD evD rFz nLz ?_;intro bN wN hN)|((with_reducible refine at_append ⟨?_⟩);refine wl_app 3 1 8 kRz aQ rFz rFz pkD pkD rFz nLz rFz aQ nLz nLz evD ?_;intro bA nA cA wA hA))
    go_roundg (L.l.length - (i+1))
    case measure=>have:=Hlt.out;omega
    case rel=>
     refine ⟨i+1,rfl,Nat.succ_le_of_lt Hlt.out,by first|rfl|go_num,?_⟩
     rw [Htk.out]at hA
     exact Sat.sb hA
   ·obtain rfl:i=L.l.length:=by omega
    have hic:¬ (L.l.length:Int)<(L.l.length:Int):=oQ
    rw [List.take_length]at hS
    clear hi hlt
    go_wp2
    go_ret
    refine ⟨_,rfl,?_⟩
    have h7:=Hend.out _ _ (hS.pk)
    exact Sat.sub (LogRep.shut2 (lv:= .slice (some ⟨b,0,none⟩) L.l.length cap) (Sat.sb h7)) sbD
end
section
variable {w0 w:World}{F:List HProp}{av bv v:Value}
section
variable {L R:List HProp}{b o:Nat}{ops:Array Oper}{rest:List Oper}{a:Act}{Q:Exit→Act→World→Prop}{dst:Option Tmp}{t ty T:TypeId}{pos:String}{after:Array Edge}{P:Program}{x:Operand}{cs:Array Value}{g:Nat×Bool}
theorem at_loadG (h:Stop (wpList P ops Q (⟨dst,.load ty x,t,pos,after,some g⟩::rest) a w)):wpList P ops Q (⟨dst,.load ty x,t,pos,after,some g⟩::rest) a w:=h.out
theorem wl_loadGm (hw:Region.wanted ⟨dst,.load ty x,t,pos,after,some g⟩ (yielded ops a.tmps)=true) (hx:a.eval x = .pointer (some ⟨b,o,none⟩)) (cl:List Value) (d:TypeDesc) (hc:w.rangeAt b o cl)
  (hu:P.underlying ty=some d) (hd:d.isRow=true) (hi:(P.info? ty).map (·.size)=some cl.length)
  (h:wpList P ops Q rest (a.put dst (.agg cl.toArray)) w):wpList P ops Q (⟨dst,.load ty x,t,pos,after,some g⟩::rest) a w:=
 wpList_step fun _ hK=>by
  rw [if_pos hw]
  exact wp_load_mid ty x rfl b o hx cl d hc hu hd hi (hK _ _ h)
end
end
def penc (p:Seg.Plc):List Value:=[.int .i64 p.seg,.int .i64 p.at_,.int .i64 p.size]
def aenc (a:Rep.Abt):List Value:=[.int .i64 a.tag,.int .i64 a.place.seg,.int .i64 a.place.at_,.int .i64 a.place.size,.int .i64 a.first]
theorem penc_len (p:Seg.Plc):(penc p).length=3:=rfl
theorem aenc_len (a:Rep.Abt):(aenc a).length=5:=rfl
theorem penc_ones (p:Seg.Plc):(penc p).all (·.oneCell')=true:=rfl
theorem aenc_ones (a:Rep.Abt):(aenc a).all (·.oneCell')=true:=rfl
def slotL {V:Type} (enc:V→List Value) (x:Tab.Slot V):List Value:= .int .i64 x.st::(bys x.key++enc x.val)
abbrev tbPt (p:Nat) (T:TypeId) (sv:Value) (n g:Nat):HProp:=pt p (.cells #[sv,.int .i64 n,.int .i64 g] T (0,0))
theorem slotL_len {V:Type} (enc:V→List Value) (x:Tab.Slot V) (hk:x.key.length=32) (m:Nat) (he:(enc x.val).length=m):(slotL enc x).length=33+m:=by
 unfold slotL
 rw [List.length_cons,List.length_append,bys_len,hk,he];omega
theorem bys_ones (b:Frm.Bs):(bys b).all (·.oneCell')=true:=by
 rw [List.all_eq_true]
 intro v hv
 unfold bys at hv
 obtain ⟨c,_,rfl⟩:=List.mem_map.1 hv
 rfl
theorem slotL_ones {V:Type} (enc:V→List Value) (x:Tab.Slot V) (he:(enc x.val).all (·.oneCell')=true):(slotL enc x).all (·.oneCell')=true:=by
 unfold slotL
 rw [List.all_cons,List.all_append,bys_ones,he];rfl
theorem slotL_key {V:Type} (enc:V→List Value) (x:Tab.Slot V){j:Nat}{v:Value} (h:(bys x.key)[j]?=some v):(slotL enc x)[1+j]?=some v:=by
 unfold slotL
 rw [Nat.add_comm,List.getElem?_cons_succ,List.getElem?_append_left (List.getElem?_eq_some_iff.1 h).1];exact h
theorem slotL_val {V:Type} (enc:V→List Value) (x:Tab.Slot V) (hk:x.key.length=32){j:Nat}{v:Value} (h:(enc x.val)[j]?=some v):(slotL enc x)[33+j]?=some v:=by
 unfold slotL
 rw [show 33+j=32+j+1 by omega,List.getElem?_cons_succ,List.getElem?_append_right (by rw [bys_len,hk];omega),bys_len,hk,Nat.add_sub_cancel_left];exact h
theorem zSlotA:zeroB Tryz.prog 258=some (.agg (slotL aenc ⟨0,Frm.zero32,⟨0,Seg.Plc.zero,0⟩⟩).toArray):=by kernel_rfl
theorem zSlotL:zeroB Tryz.prog 131=some (.agg (slotL penc ⟨0,Frm.zero32,Seg.Plc.zero⟩).toArray):=by kernel_rfl
section
variable {w0 w:World}{L R:List HProp}{b:Nat}{T:TypeId}{V:Type}{enc:V→List Value}{x:Tab.Slot V}{l:List Value}
theorem pt_rangeL (h:Sat w0 w (pt b (.cells l.toArray T (0,0))::R)):w.rangeAt b 0 l:=fun j v hj=>by
 have:=h.cellP pick0 j (by rw [List.getElem?_toArray];exact hj)
 rw [Nat.zero_add];exact this
theorem slot_key (h:Sat w0 w (pt b (.cells (slotL enc x).toArray T (0,0))::R)):w.rangeAt b 1 (bys x.key):=fun j v hj=>
 h.cellP pick0 (1+j) (by rw [List.getElem?_toArray];exact slotL_key enc x hj)
theorem slot_val (hk:x.key.length=32) (h:Sat w0 w (pt b (.cells (slotL enc x).toArray T (0,0))::R)):w.rangeAt b 33 (enc x.val):=fun j v hj=>
 h.cellP pick0 (33+j) (by rw [List.getElem?_toArray];exact slotL_val enc x hk hj)
end
end Go.Proofs.YtjbhhbnopnmcnaaGreatDoor
namespace Go.Tab
open Go.Frm (Bs)
section
variable {V:Type}{x:Slot V}{c:Nat}
theorem good_empty (hc:∃ j,c=2^j∧3≤j) (hk:x.key.length=32) (hx:x.st=0):Good (List.replicate c x):=
 ⟨by rw [List.length_replicate];exact hc,(fun y hy=>by rw [List.eq_of_mem_replicate hy,hx];decide),(fun y hy=>by rw [List.eq_of_mem_replicate hy];exact hk),fun i y hy h1=>by
  rw [List.eq_of_mem_replicate (List.mem_of_getElem? hy),hx]at h1;cases h1⟩
theorem empty_has (hx:x.st=0) (k:Bs) (v:V):¬ Has (List.replicate c x) k v:=by
 rintro ⟨i,y,hy,h1,_⟩
 rw [List.eq_of_mem_replicate (List.mem_of_getElem? hy),hx]at h1;cases h1
theorem empty_fulls (hx:x.st=0):fulls (List.replicate c x)=0:=by unfold fulls;rw [List.countP_replicate,if_neg (by rw [hx];decide)]
theorem empty_used (hx:x.st=0):used (List.replicate c x)=0:=by unfold used;rw [List.countP_replicate,if_neg (by rw [hx];decide)]
theorem new_ok (hk:x.key.length=32) (hx:x.st=0):(⟨List.replicate 8 x,0,0⟩:Tb V).Ok:=
 ⟨good_empty ⟨3,rfl,Nat.le_refl 3⟩ hk hx,(empty_fulls hx).symm,(empty_used hx).symm,by simp,by simp⟩
theorem new_is (hx:x.st=0) (n g:Nat):(⟨List.replicate 8 x,n,g⟩:Tb V).Is (fun _=>none):=fun k v=>⟨fun h=>absurd h (empty_has hx k v),fun h=>by cases h⟩
theorem Tb.Is.some {t:Tb V}{m:Bs→Option V} (hm:t.Is m) (ho:t.Ok){k:Bs}{d:Nat} (he:Ends t.slots k d){y:Slot V} (hy:t.slots[pos k t.slots.length d]?=some y):(y.st=1→m k=some y.val)∧(y.st≠1→m k=none):=by
 refine ⟨fun h1=>(hm k _).1 (ends_full he hy h1).2,fun h1=>?_⟩
 cases hmk:m k with
 |none=>rfl
 |some v=>exact absurd ((hm k v).2 hmk) ((ends_empty ho.good he hy h1).2 v)
end
end Go.Tab
namespace Go.Proofs.YtjbhhbnopnmcnaaGreatDoor
open Go Go.Sl Go.Med Go.MapKept Go.RowKit
theorem made_rows (z:Array Value) (h:0<z.size):∀ n,(madeCells z (n * z.size)).toList=(List.replicate n z.toList).flatten
 |0=>by simp [madeCells]
 |n+1=>by
  have ih:=made_rows z h n
  have hl:(madeCells z ((n+1) * z.size)).toList=(List.range ((n+1) * z.size)).map (z[· % z.size]!):=by unfold madeCells;simp
  have hl0:(madeCells z (n * z.size)).toList=(List.range (n * z.size)).map (z[· % z.size]!):=by unfold madeCells;simp
  rw [hl0]at ih
  rw [hl,Nat.succ_mul,List.range_add,List.map_append,ih,List.replicate_succ',List.flatten_append]
  congr 1
  rw [List.map_map]
  simp only [List.flatten_cons,List.flatten_nil,List.append_nil]
  refine List.ext_getElem (by simp) fun i h1 h2=>?_
  have hi:i<z.size:=by simpa using h1
  simp only [List.getElem_map,List.getElem_range,Function.comp]
  rw [Nat.mul_comm n,Nat.mul_add_mod,Nat.mod_eq_of_lt hi,getElem!_pos z i hi,Array.getElem_toList]
section
variable {P:Program}{w0 w:World}{L L' R:List HProp}{b o:Nat}{ops:Array Oper}{rest:List Oper}{a:Act}{Q:Exit→Act→World→Prop}{dst:Option Tmp}{t ty T e sz by' n c:Nat}{pos:String}{after:Array Edge}{x y:Operand}{v:Value}{zs:List Value}
theorem at_make (h:Stop (wpList P ops Q (⟨dst,.makeSlice ty x y,t,pos,after,none⟩::rest) a w)):wpList P ops Q (⟨dst,.makeSlice ty x y,t,pos,after,none⟩::rest) a w:=h.out
theorem wl_makeN (hb:appB P ty e sz by'=true) (hz:zeroB P e=some (.agg zs.toArray)) (hs:Sat w0 w L) (hx:a.eval x = .int .i64 n) (hy:a.eval y = .int .i64 n) (hle:by' * n≤281474976710656) (hm:n≤9223372036854775807)
  (hK:∀ b w',Sat w0 w' (osl e sz (.slice (some ⟨b,0,none⟩) n n) (List.replicate n zs).flatten::L)→wpList P ops Q rest (a.put dst (.slice (some ⟨b,0,none⟩) n n)) w') :
  wpList P ops Q (⟨dst,.makeSlice ty x y,t,pos,after,none⟩::rest) a w:=by
 obtain ⟨hu,i,z,hi,hz1,h1,h2,h3,h4⟩:=appB_spec hb
 have hzz:z = .agg zs.toArray:=by
  unfold zeroB at hz
  rw [hi]at hz
  simp only [Option.bind_some]at hz
  rw [hz1]at hz
  exact Option.some.inj hz
 subst hzz
 have hzl:zs.length=sz:=by rw [← List.size_toArray];exact h3
 have hr:=run_make (P:=P) w ty e i (.agg zs.toArray) hu hi hz1 .i64 .i64 n n oQ (Int.le_refl _) (by rw [h2,← Int.natCast_mul];omega) oQ
 simp only [Int.toNat_natCast]at hr
 have hS:=hs.alloc (.cells (madeCells (Value.agg zs.toArray).cells (n * i.size)) e)
 refine wpList_plain rfl fun _ hK'=>?_
 unfold Oper.wp execOp
 simp only [hx,hy,hr,Sem.run_bind,Sem.run_pure,Result.andThen_ok]
 refine hK' _ _ (hK _ _ ?_)
 have hm:=made_rows zs.toArray (by rw [List.size_toArray];omega) n
 rw [List.size_toArray,hzl]at hm
 refine Sat.osl_of_pt hS (by rw [List.length_flatten,List.map_replicate,List.sum_replicate_nat,hzl]) (Nat.le_refl _) (by rw [size_madeCells,h1];exact Nat.le_refl _) (by unfold maxLen;omega) ?_
 rw [h1]
 show (madeCells zs.toArray (n * sz)).toList.take (n * sz)=_
 rw [hm,List.take_of_length_le (by rw [List.length_flatten,List.map_replicate,List.sum_replicate_nat,hzl];exact Nat.le_refl _)]
end
end Go.Proofs.YtjbhhbnopnmcnaaGreatDoor
