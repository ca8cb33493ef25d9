import Derived.Test.YtiglchkhikciiaaGreatDoorJ4
import Derived.Lib.Bytealg
import Derived.Lib.BytesEntry
import Derived.Sort.Grow
import Derived.Sort.OwnSorted
import Derived.Shelf.SlSortCmp.WholeK
import Derived.Shelf.SlSortCmp.NoneTotal
import Derived.Test.YtiglchkhikciiaaGreatDoorSort
import Derived.RangeFuncNested
import Derived.RangeFuncLeaves
import Derived.TacticsIn
import Derived.OrdersIn
namespace Go.Proofs.YtiglchkhikciiaaGreatDoor
open Go Go.Sl Go.ay Go.MapKept Go.RowKit
section
variable {P : Program} {ops : Array Oper} {a : Act} {dst : Option Tmp} {t ty : TypeId} {pos : String} {after : Array Edge} {x y : Operand} {v vx vy : Value} {ad : Addr} {fl : Nat} {bo : BinOp} {tz : TypeId} {g : Option (Nat × Bool)}
theorem gfQ (hw : Region.wanted ⟨dst, .fieldAddr ty x fl, t, pos, after, g⟩ (yielded ops a.tmps) = true := by rfl) (hx : a.eval x = vx := by conv => lhs; whnf) (hr : ∀ w, (Instr.fieldAt ty vx fl).run P w = .ok v w := by ((intro wq; go_simp); first | done | (with_reducible rfl))) : Yields P ops ⟨dst, .fieldAddr ty x fl, t, pos, after, g⟩ v a := kT hw hx hr
theorem gmQ (hw : Region.wanted ⟨dst, .move x, t, pos, after, g⟩ (yielded ops a.tmps) = true := by rfl) (hx : a.eval x = v := by conv => lhs; whnf) : Yields P ops ⟨dst, .move x, t, pos, after, g⟩ v a := fM hw hx
end
end Go.Proofs.YtiglchkhikciiaaGreatDoor
set_option linter.unusedVariables false
set_option maxHeartbeats 128000000
namespace Go.Tab
open Go.aj (Bs)
structure uX {V:Type} (t:Tb V) (s':List (Slot V)) (N:Nat):Prop where
 good:Good s'
 has:∀ k v,Has s' k v↔Has t.slots k v
 nf:jB s'=t.n
 nu:used s'=t.n
 lo:2 * N≤s'.length
 lo8:8≤s'.length
 hi:s'.length=8∨s'.length<4 * N
theorem uX.ok {V:Type}{t:Tb V}{s':List (Slot V)} (h:uX t s' (t.n+1)):(⟨s',t.n,0⟩:Tb V).Ok:=
 ⟨h.good,h.nf.symm,by rw [h.nu];rfl,by have:=h.lo;simp only;omega,by have:=h.hi;simp only;omega⟩
theorem uX.is {V:Type}{t:Tb V}{s':List (Slot V)}{N:Nat} (h:uX t s' N){m:Bs→Option V} (hm:t.Is m) (n g:Nat):(⟨s',n,g⟩:Tb V).Is m:=fun k v=>(h.has k v).trans (hm k v)
theorem half_start {V:Type}{old:List (Slot V)}{x:Slot V}{c:Nat} (hc:∃ j,c=2^j∧3≤j) (hk:x.key.length=32) (hx:x.st=0):Half old (List.replicate c x) 0:=
 ⟨SG hc hk hx,fun k v=>⟨fun h=>absurd h (QY hx k v),fun h=>by obtain ⟨i,y,hy,_⟩:=h;simp at hy⟩,by rw [QX hx];rfl,by rw [QZ hx];rfl⟩
end Go.Tab
namespace Go.Proofs.YtiglchkhikciiaaGreatDoor
open Go Go.Sl Go.ay Go.MapKept Go.RowKit
theorem zX (A B vs:List Value) (i:Nat) (h:i+vs.length≤A.length):jL (A++B) i vs=jL A i vs++B:=by
 unfold jL
 rw [ajb oQ,aku oQ]
 simp only [adR]
theorem Gz {α:Type}{f:α→List Value}{k:Nat}:∀ {l:List α}{i o:Nat}{x x':α}{vs:List Value},(∀ x∈l,(f x).length=k)→l[i]?=some x→f x'=jL (f x) o vs→o+vs.length≤k→(l.set i x').flatMap f=jL (l.flatMap f) (i * k+o) vs
 |[],_,_,_,_,_,_,h,_,_=>by cases h
 |y::l,0,o,x,x',vs,hk,h,hx,ho=>by
  obtain rfl:y=x:=by simpa using h
  rw [List.set_cons_zero,ai7,ai7,Nat.zero_mul,aen,hx,zX _ _ _ _ (by rw [hk y (.head _)];exact ho)]
 |y::l,i+1,o,x,x',vs,hk,h,hx,ho=>by
  have h0:=hk y (.head _)
  rw [List.set_cons_succ,ai7,ai7,Gz (fun z hz=>hk z (.tail _ hz)) (by simpa using h) hx ho,show (i+1) * k+o=(f y).length+(i * k+o) by rw [h0,Nat.succ_mul];omega,wG]
theorem XC {V:Type} (enc:V→List Value) (x:Tab.Slot V) (v:V) (hk:x.key.length=32) (he:(enc v).length=(enc x.val).length):slotL enc ⟨x.st,x.key,v⟩=jL (slotL enc x) 33 (enc v):=by
 have e:slotL enc x=(.int .i64 x.st::aA x.key)++enc x.val:=rfl
 have hl:(Value.int .i64 x.st::aA x.key).length=33:=by rw [aja,aV,hk]
 rw [e,show 33=(Value.int .i64 x.st::aA x.key).length+0 by rw [hl],wG]
 unfold jL
 rw [ajD,ajd,aen,he,ak9,afo];rfl
section
variable {w0 w:World}{R:List aG}{T sz n c:Nat}{a:Option Addr}{xs:List Value}
theorem Dw (h:Sat w0 w (aC T sz (.slice a n c) xs::R)) (hx:0<xs.length):∃ b,a=some ⟨b,0,none⟩:=by
 rcases Sat.jQ h with ⟨_,rfl,_⟩|⟨b,n',cap',cs,he,_⟩
 ·simp at hx
 ·cases he;exact ⟨b,rfl⟩
end
theorem Yn (n g l:Nat) (h:n+g≤134217728) (hl:l≤1073741824) :
  IntKind.i64.wrap ((n:Int)+(g:Int))=(n:Int)+(g:Int)∧IntKind.i64.wrap ((n:Int)+(g:Int)+1)=(n:Int)+(g:Int)+1∧IntKind.i64.wrap (4 * ((n:Int)+(g:Int)+1))=4 * ((n:Int)+(g:Int)+1)∧IntKind.i64.wrap (3 * (l:Int))=3 * (l:Int) ∧
  wrap64 ((n:Int)+(g:Int))=(n:Int)+(g:Int)∧wrap64 ((n:Int)+(g:Int)+1)=(n:Int)+(g:Int)+1∧wrap64 (4 * ((n:Int)+(g:Int)+1))=4 * ((n:Int)+(g:Int)+1)∧wrap64 (3 * (l:Int))=3 * (l:Int)∧IntKind.i64.wrap ((n:Int)+1)=(n:Int)+1:=
 ⟨acI _ oQ,acI _ oQ,acI _ oQ,acI _ oQ,ajM _ oQ,ajM _ oQ,ajM _ oQ,ajM _ oQ,acI _ oQ⟩
theorem afu:qW Tryz.prog 355=some [(0,1),(1,32),(33,5)]:=by kernel_rfl
theorem VH:qW Tryz.prog 178=some [(0,1),(1,32),(33,3)]:=by kernel_rfl
theorem wF {xs vs:List Value} (h:vs.length=xs.length):jL xs 0 vs=vs:=by
 unfold jL
 rw [ajD,ajd,aen,h,ak9,afo]
theorem uH (cs:Array Value) (o:Nat) (vs:List Value) (h:o+vs.length≤cs.size):(dM cs o vs).toList=jL cs.toList o vs:=by
 rw [jU _ _ _ h,adR];rfl
theorem VW {V:Type} (enc:V→List Value) (z:Tab.Slot V) (k:aj.Bs) (v:V) (hz:z.key.length=32) (hk:k.length=32) (he:(enc v).length=(enc z.val).length) (n:Nat) (hn:(enc z.val).length=n) :
  Dz [(0,1),(1,32),(33,n)] (slotL enc z).toArray [(0,.int .i64 1),(1,.agg (aA k).toArray),(2,.agg (enc v).toArray)]=(slotL enc ⟨1,k,v⟩).toArray:=by
 have hzl:(slotL enc z).length=33+n:=by rw [iT enc z hz _ hn]
 show dM (dM (dM (slotL enc z).toArray 0 [.int .i64 1]) 1 (aA k)) 33 (enc v)=_
 apply nT
 rw [uH _ _ _ (by rw [jM,jM,aaI,hzl];omega),uH _ _ _ (by rw [jM,aaI,hzl,aV,hk];omega),uH _ _ _ (by rw [aaI,hzl,adX];omega)]
 have e:slotL enc z=[.int .i64 z.st]++(aA z.key++enc z.val):=rfl
 have e1:jL (slotL enc z) 0 [.int .i64 1]=[.int .i64 1]++(aA z.key++enc z.val):=by
  rw [e,zX _ _ _ _ (acy 1)];rfl
 have e2:jL ([Value.int .i64 1]++(aA z.key++enc z.val)) 1 (aA k)=[Value.int .i64 1]++(aA k++enc z.val):=by
  have h0:=wG [Value.int .i64 1] (aA z.key++enc z.val) (aA k) 0
  have h1:jL (aA z.key++enc z.val) 0 (aA k)=aA k++enc z.val:=by
   rw [zX _ _ _ _ (by rw [aV,aV,hk,hz];omega),wF (by rw [aV,aV,hk,hz])]
  rw [h1]at h0
  exact h0
 have e3:jL ([Value.int .i64 1]++(aA k++enc z.val)) 33 (enc v)=[Value.int .i64 1]++(aA k++enc v):=by
  have h0:=wG ([Value.int .i64 1]++aA k) (enc z.val) (enc v) 0
  rw [wF he]at h0
  have hl:([Value.int .i64 1]++aA k).length+0=33:=by rw [aal,aV,hk];rfl
  rw [hl,adR,adR]at h0
  exact h0
 simp only []
 rw [e1,e2,e3];rfl
end Go.Proofs.YtiglchkhikciiaaGreatDoor
namespace Go.Tab
open Go.aj (Bs)
theorem EK:∀ (a b:Bs),Lib.compareBytes a b<0↔a<b
 |[],[]=>by simp [Lib.compareBytes]
 |[],b::bs=>by simp [Lib.compareBytes]
 |a::l,[]=>by simp [Lib.compareBytes]
 |a::l,b::bs=>by
  rw [List.cons_lt_cons_iff,← EK l bs]
  rw [show Lib.compareBytes (a::l) (b::bs)=if a<b then -1 else if b<a then 1 else Lib.compareBytes l bs from rfl]
  by_cases h1:a<b
  ·simp [h1]
  ·rw [abw h1]
   by_cases h2:b<a
   ·rw [ac3 h2]
    constructor
    ·intro h;exact absurd h aN
    ·rintro (h|⟨rfl,_⟩)
     ·exact absurd h h1
     ·exact absurd h2 h1
   ·rw [abw h2]
    have:a=b:=by
     have h3:¬ a.toNat<b.toNat:=fun h=>h1 (UInt8.lt_iff_toNat_lt.2 h)
     have h4:¬ b.toNat<a.toNat:=fun h=>h2 (UInt8.lt_iff_toNat_lt.2 h)
     exact UInt8.toNat_inj.1 oQ
    subst this
    constructor
    ·intro h;exact .inr ⟨rfl,h⟩
    ·rintro (h|⟨_,h⟩)
     ·exact absurd h h1
     ·exact h
end Go.Tab
namespace Go.Proofs.YtiglchkhikciiaaGreatDoor
open Go Go.Sl Go.ay Go.MapKept Go.RowKit
theorem tK (b o j:Nat):(⟨b,o,none⟩:Addr).add j=⟨b,o+j,none⟩:=by unfold Addr.add;split <;> simp_all
section
variable {w0 w:World}{F R:List aG}{v bv av:Value}
theorem Xe {l:aj.Bs} (h:bg 1 v (aA l) w):(Extern.Bytes.bytesOf v).run Tryz.prog w = .ok ⟨l.toArray⟩ w:=by
 obtain ⟨a,n,c,rfl,hl,hx⟩:=h
 rw [aV,aiw]at hl
 subst hl
 cases a with
 |none=>
  obtain rfl:l=[]:=by
   cases l with
   |nil=>rfl
   |cons d l=>obtain ⟨b,hb,_⟩:=hx 0 _ rfl;cases hb
  rfl
 |some ad=>
  have:=Lib.run_loadBytesX (P:=Tryz.prog) w (l.map fun c=>(c.toNat:Int)) ad .empty (fun j x hj=>by
   rw [aix]at hj
   obtain ⟨c',hc',rfl⟩:=akk.1 hj
   have hy:(aA l)[j]?=some (.int .u8 c'.toNat):=by unfold aA;rw [aix,hc'];rfl
   obtain ⟨b,hb,hc⟩:=hx _ _ hy
   cases hb
   exact hc)
  rw [aaJ]at this
  simp only [Extern.Bytes.bytesOf,this]
  have e:Lib.bytesOf (l.map fun c=>(c.toNat:Int))=l:=by
   unfold Lib.bytesOf
   rw [aj9]
   conv=>rhs;rw [← List.map_id l]
   exact akz fun c _=>by simp
  rw [e]
  show Result.ok ({ data:=(#[]:Array UInt8)++l.toArray }:ByteArray) w=_
  rw [Array.empty_append]
theorem agD {x y:aj.Bs} (h1:bg 1 av (aA x) w) (h2:bg 1 bv (aA y) w):(Extern.BytealgCompare.compare #[av,bv]).run Tryz.prog w = .ok (.int .i64 (Lib.compareBytes x y)) w:=by
 change Sem.run Tryz.prog (do pure (goInt (Extern.BytealgCompare.cmp (← Extern.Bytes.bytesOf av) (← Extern.Bytes.bytesOf bv)))) w=_
 simp only [adO,aeC,Xe h1,Xe h2,Result.andThen]
 rw [Lib.cmp_eq]
 rfl
set_option maxRecDepth 100000 in
theorem JU (x y:aj.Bs) (h1:bg 1 av (aA x) w) (h2:bg 1 bv (aA y) w) :
  Calls Tryz.prog 188 #[av,bv] w fun e w'=>e = .returned (.int .i64 (Lib.compareBytes x y))∧w'=w:=by
 have hr:=agD h1 h2
 generalize Lib.compareBytes x y=r at *
 clear h1 h2
 go_enter Tryz.func188,Tryz.ntmps188
 go_wp2
 rw [run_callFunc_extern Tryz.func227 au au au (e:=Extern.BytealgCompare.compare) au,hr]
 simp only [Result.andThen]
 rw [Oper.upon_value]
 go_wp2
 go_ret
 exact ⟨rfl,rfl⟩
end
end Go.Proofs.YtiglchkhikciiaaGreatDoor
namespace Go.Proofs.YtiglchkhikciiaaGreatDoor
open Go Go.Sl Go.ay Go.MapKept Go.RowKit Go.Sort
section
variable {α:Type} [Inhabited α] {enc:α→List Value}{k:Nat}
theorem Rx (hk:∀ x,(enc x).length=k) (h0:0<k) (d:Array α):(flatK enc k d).toList=d.toList.flatMap enc:=by
 have hl:(d.toList.flatMap enc).length=k * d.toList.length:=iE fun x _=>hk x
 refine List.ext_getElem (by rw [hl,adu,size_flatK,adu,ajW]) fun t h1 h2=>?_
 have ht:t<d.size * k:=by rw [adu,size_flatK]at h1;exact h1
 have hi:t / k<d.size:=Nat.div_lt_of_lt_mul (by rw [ajW];exact ht)
 have hx:d.toList[t / k]?=some d[t / k]! := by
  rw [akg,akh hi,getElem!_pos d _ hi]
 have hm:t%k<(enc d[t / k]!).length:=by rw [hk];exact akC _ h0
 have hr:=Gy (l:=d.toList) (f:=enc) (k:=k) (fun x _=>hk x) hx (aak hm)
 rw [show t / k * k+t%k=t by rw [ajW];exact Nat.div_add_mod t k,aak h2]at hr
 rw [ake hr,Array.getElem_toList,← getElem!_pos (flatK enc k d) t (by rw [size_flatK];exact ht),get_flatK _ _ _ _ ht]
 exact getElem!_pos (enc d[t / k]!) (t%k) hm
end
section
variable {w0 w:World}{R:List aG}{g n m:Nat}{T:TypeId}{cs:Array Value}{os:Array Obj}
theorem acY {fr:Nat×Nat} (d:Array Value) (hb:w.heap[g]?=some (.cells cs T fr)):(grow (putRow id (Sort.ahead w n) g 0 d) os).heap[g]?=some (.cells (putCells id 0 d cs) T fr):=by
 have hg:g<w.heap.size:=(akq.1 hb).1
 rw [heap_grow_old _ _ (by simpa using hg)]
 simp [putRow,mapBlock,Sort.ahead,ako,hb,onCells]
theorem acH (d:Array Value):w.grownBy (grow (putRow id (Sort.ahead w n) g 0 d) os) (some g):=by
 refine ⟨rfl,rfl,rfl,by simp,fun k hk hne=>?_⟩
 rw [heap_grow_old _ _ (by simpa using hk)]
 have:g≠k:=fun e=>hne (by rw [e])
 simp [putRow,mapBlock,Sort.ahead,ako,this]
theorem XR (d:Array Value) (h:d.size≤cs.size):(putCells id 0 d cs).toList.take d.size=d.toList:=by
 apply List.ext_getElem?
 intro j
 by_cases hj:j<d.size
 ·rw [List.getElem?_take_of_lt hj,akg]
  simp [putCells,hj,show j<cs.size by omega]
 ·rw [List.getElem?_take_eq_none oQ,ajH (by simp;omega)]
theorem Xl (hp:Sat w0 w (pt g (.cells cs T (0,0))::R)) (d:Array Value):Sat w0 (grow (putRow id (Sort.ahead w n) g 0 d) os) (pt g (.cells (putCells id 0 d cs) T (0,0))::R):=by
 have hg:=acH (w:=w) (g:=g) (n:=n) (os:=os) d
 exact hp.turn hg.os hg.tape hg.output hg.size (acY (n:=n) (os:=os) d hp.at) (fun i hi hlt=>hg.block i hlt (by simpa using hi))
theorem TU {d:Array Value} (hb:w.heap[g]?=some (.cells cs T (0,0))) (ht:cs.toList.take d.size=d.toList):Holds id w g 0 d:=by
 intro j hj
 refine ⟨?_,by simp [World.frozen?,hb]⟩
 have h1:(cs.toList.take d.size)[j]?=d.toList[j]?:=by rw [ht]
 rw [List.getElem?_take_of_lt hj]at h1
 simp only [World.cell?,hb,aen]
 simp only [Option.isSome_none,ajK,akO]
 rw [← akg,h1,akg,akh hj,getElem!_pos d j hj]
 rfl
end
end Go.Proofs.YtiglchkhikciiaaGreatDoor
namespace Go.Tab
open Go.aj (Bs)
open Go.Sort
theorem XL {V:Type} (key:V→Bs):SWO (Go.Proofs.ltOf fun x y=>Lib.compareBytes (key x) (key y)):=by
 have e:∀ x y,Go.Proofs.ltOf (fun x y=>Lib.compareBytes (key x) (key y)) x y=decide (key x<key y):=fun x y=>by
  unfold Go.Proofs.ltOf
  rw [akJ,adN,adN]
  exact EK _ _
 refine ⟨fun x=>?_,fun x y z=>?_,fun x y z=>?_⟩
 ·rw [e,ajJ];exact ak2 _
 ·rw [e,e,e,adN,adN,adN];exact alD
 ·rw [e,e,e,ajJ,ajJ,ajJ]
  intro h1 h2 h3
  rcases EG (key x) (key y) with q|q|q
  ·exact h1 q
  ·exact h2 (q ▸ h3)
  ·rcases EG (key y) (key z) with p|p|p
   ·exact h2 p
   ·exact ak2 _ (alD q (p ▸ h3))
   ·exact ak2 _ (alD (alD h3 p) q)
theorem XE {V:Type} [Inhabited V] {key:V→Bs}{d d':Array V} (hp:PermIn 0 d.size d d') (hs:SortedIn (Go.Proofs.ltOf fun x y=>Lib.compareBytes (key x) (key y)) 0 d.size d') :
  d'.toList.Perm d.toList∧d'.toList.Pairwise fun a b=>¬ key b<key a:=by
 obtain ⟨h1,_,h3⟩:=hp
 constructor
 ·have e:∀ a:Array V,a.extract 0 a.size=a:=fun a=>by simp
  have h3':=h3
  rw [e d,← h1,e d']at h3'
  exact h3'
 ·rw [akQ]
  intro i j hi hj hij
  rw [adu]at hi hj
  have:=hs i j (afm _) hij oQ
  rw [getElem!_pos d' i hi,getElem!_pos d' j hj]at this
  unfold Go.Proofs.ltOf at this
  rw [ajJ,EK]at this
  simpa using this
theorem LK {V:Type}{s l:List (Slot V)}{m:Bs→Option V} (g:Good s) (hm:∀ k v,Has s k v↔m k=some v) (hp:l.Perm (s.filter fun x=>decide (x.st=1))) (hs:l.Pairwise fun a b=>¬ b.key<a.key) :
  Lists m (l.map fun x=>(x.key,x.val))∧∀ x∈l,x.st=1∧x.key.length=32:=by
 have hmem:∀ x,x∈l↔x∈s∧x.st=1:=fun x=>by rw [hp.mem_iff,aji,adN]
 have hnd:l.Pairwise fun a b=>a.key≠b.key:=by
  have h0:(s.filter fun x=>decide (x.st=1)).Pairwise fun a b=>a.key≠b.key:=by
   rw [List.pairwise_filter,akQ]
   intro i j hi hj hij h1 h2 h3
   have:=g.one (aak hi) (aak hj) (by simpa using h1) (by simpa using h2) h3
   omega
  exact (hp.pairwise_iff (fun {a b} h=>Ne.symm h)).2 h0
 refine ⟨⟨?_,fun k v=>?_⟩,fun x hx=>⟨((hmem x).1 hx).2,g.key x ((hmem x).1 hx).1⟩⟩
 ·rw [aki]
  refine (hs.and hnd).imp fun {a b} h=>?_
  rcases EG a.key b.key with q|q|q
  ·exact q
  ·exact absurd q h.2
  ·exact absurd q h.1
 ·rw [← hm,acK]
  constructor
  ·rintro ⟨x,hx,e⟩
   obtain ⟨a,b⟩:=(hmem x).1 hx
   obtain ⟨i,hi,he⟩:=akp a
   cases e
   exact ⟨i,x,by rw [aak hi,he],b,rfl,rfl⟩
  ·rintro ⟨i,x,hi,a,rfl,rfl⟩
   exact ⟨x,(hmem x).2 ⟨abA hi,a⟩,rfl⟩
end Go.Tab
namespace Go.Proofs.YtiglchkhikciiaaGreatDoor
open Go Go.Sl Go.ay Go.MapKept Go.RowKit
section
variable {w0 w:World}{F R:List aG}{p n gn d c:Nat}{sv v:Value}{k:aj.Bs}{s:List (Tab.Slot (Rep.dF))}{a:Option Addr}
theorem MH (hl:0<s.length) (h:Sat w0 w (fU p 314 (.slice a s.length c) n gn::F)) :
  Calls Tryz.prog 240 #[ptr p] w (aO fun v w'=>v = .bool true∧w=w'):=by
 have e0:w.cell? ⟨p,0,none⟩=some (.slice a s.length c):=h.cellAt 0 _ rfl
 have c1:(0:Int)<(s.length:Int):=oQ
 go_enter Tryz.func240,Tryz.ntmps240
 go_wp2
 go_ret
 exact ⟨_,rfl,rfl,rfl⟩
set_option maxRecDepth 20000 in
theorem EU (g:Tab.Good s) (hc:s.length≤1073741824) (hk:k.length=32) (he:Tab.Ends s k d) (h:Sat w0 w (fU p 314 sv n gn::aC 355 38 sv (s.flatMap (slotL bf))::F)) :
  Calls Tryz.prog 241 #[ptr p,.agg (aA k).toArray] w (aO fun v w'=>∃ x,s[Tab.pos k s.length d]?=some x∧v = .tuple #[.int .i64 (Tab.pos k s.length d:Nat),.int .i64 ((d:Int)+1),.bool (decide (x.st=1))] ∧
   Sat w0 w' (fU p 314 sv n gn::aC 355 38 sv (s.flatMap (slotL bf))::F)):=by
 have Hk:=uQ hk;have HG:=uQ g;have HE:=uQ he;have Hc:=uQ hc
 have Hlen:=uQ (show ∀ x∈s,(slotL bf x).length=38 from fun x hx=>iT bf x (g.key x hx) 5 (rG _))
 obtain ⟨la,lc,rfl⟩:=iD Hlen.out (Sat.rd (h.pick aZ)) aN
 obtain ⟨j,hj,_⟩:=g.pow
 have Cj:j<40:=by
  rcases akf j 40 with q|q
  ·exact q
  ·have:2^40≤2^j:=akv aN q
   have BO:(2:Nat)^40=1099511627776:=by decide
   omega
 have Hj:=uQ hj;have AX:=uQ Cj
 have Hd:=uQ (show d<s.length from he.lt)
 have hp0:0<s.length:=g.jG
 have iV:=uQ hp0
 have Jo:=uQ (Tab.VL (k:=k) hp0)
 clear hj Cj hk g he hc hp0
 go_enter Tryz.func241,Tryz.ntmps241
 go_wp2_with ((with_reducible refine eG ⟨?_⟩);refine eH aQ ak ak ?_;intro bB wB hB)
 have hB1:=hB.drew
 clear hB
 refine dH [6,7] (fun w'=>w'.rangeAt bB 0 (aA k)∧w'.cell? ⟨p,0,none⟩=some (.slice la s.length lc)) au ?_
 have hG:World.rangeAt _ bB 0 (aA k)∧World.cell? _ ⟨p,0,none⟩=some (.slice la s.length lc):=⟨oN (hB1.pk (A:=pt bB (.cells (aA k).toArray 31 (0,0)))),hB1.cellP aY 0 rfl⟩
 refine eP 0 ak au bK (ig (b:=bB) (o:=0) (aA k) ah Tryz.underlying31 rfl (by rw [aV,Hk.out];kernel_rfl) (fun w hw=>hw.1)) aQ gQ ?_
 refine rP 1 ?_ (y:=aX)
 refine rP 2 ?_ (y:=dZ)
 refine rP 3 ?_ (y:=cO)
 refine rt 4 (h:=?_)
 refine rP 5 ?_ (y:=(nZ ak dh))
 clear hG
 have hh:=TV k Hk.out j AX.out hB1
 rw [← Hj.out]at hh
 refine bV 6 ak au (fun K hK=>?_)
 (refine gy au ak ak ?_)
 refine hh.mono ?_
 rintro ee w2 ⟨v,rfl,rfl,hS2⟩
 refine hK _ _ (.inl rfl) ?_
 clear hK hh hB1
 refine rP 7 ?_ (y:=fJ)
 refine dD au ?_
 try simp only [iO]
 try go_frame
 rw [← Jo.out]
 go_wp2_with fail
 go_loopg [7,8] d (fun g aq sq wr=>∃ e:Nat,g=d - e∧e≤d∧aq = .int .i64 (Tab.pos k s.length e:Nat)∧sq = .int .i64 ((e:Int)+1) ∧
  Sat w0 wr (pt bB (.cells (aA k).toArray 31 (0,0))::fU p 314 (.slice la s.length lc) n gn::aC 355 38 (.slice la s.length lc) (s.flatMap (slotL bf))::F))
 case atStart=>exact ⟨0,rfl,afm _,rfl,rfl,hS2.sb⟩
 case round=>
  obtain ⟨e,rfl,hed,rfl,rfl,hS⟩:=hrel
  clear hS2
  have hlt:=Tab.lX (k:=k) (d:=e) iV.out
  have hdl:=Hd.out
  have hcl:=Hc.out
  obtain ⟨x,hx⟩:∃ x,s[Tab.pos k s.length e]?=some x:=⟨_,aak hlt⟩
  have hxm:=abA hx
  have hst:=HG.out.st x hxm
  have Hxk:=uQ (HG.out.key x hxm)
  obtain ⟨bk,off,c',hsv,hcell⟩:=iC Hlen.out (Sat.rd (hS.pick fG)) hx aN
  have uV:=uQ (Tab.VK (k:=k) (d:=e) iV.out)
  have Ba:=uQ (JF (Tab.pos k s.length e+1) j oQ (by have:=AX.out;omega))
  have l9:=uQ (show e=d↔x.stop k from ⟨fun h=>by
    subst h
    obtain ⟨y,hy,hs⟩:=HE.out.here
    rw [hx]at hy;cases hy;exact hs,fun h=>by
    rcases akf e d with q|q
    ·exact absurd ⟨x,hx,h⟩ (HE.out.no e q)
    ·omega⟩)
  have Hx:=uQ hx
  cases hsv
  have c0:(0:Int)≤((Tab.pos k s.length e:Nat):Int):=oQ
  have c1:((Tab.pos k s.length e:Nat):Int)<(s.length:Int):=oQ
  have c2:Tab.pos k s.length e<s.length:=hlt
  have e0:wr.cell? ⟨p,0,none⟩=some (.slice (some ⟨bk,off,none⟩) s.length lc):=hS.cellP aY 0 rfl
  have fP:=Hlen.out x hxm
  clear hx hxm
  have hq:bits .and .i64 (((Tab.pos k s.length e:Nat):Int)+1) ((s.length:Int) - 1)=((Tab.pos k s.length (e+1):Nat):Int):=by
   have h1:=Ba.out
   rw [← Hj.out,uV.out]at h1
   rw [← h1]
   congr 1
   have:=iV.out
   omega
  have hw1:IntKind.i64.wrap (((Tab.pos k s.length e:Nat):Int)+1)=((Tab.pos k s.length e:Nat):Int)+1:=acI _ oQ
  have hw2:IntKind.i64.wrap ((s.length:Int) - 1)=(s.length:Int) - 1:=acI _ oQ
  have hw3:IntKind.i64.wrap ((e:Int)+1+1)=(e:Int)+1+1:=acI _ oQ
  clear hdl hcl
  generalize hP1:Tab.pos k s.length (e+1)=P1 at hq
  have AA:=uQ hP1
  generalize hP:Tab.pos k s.length e=P0 at *
  have HP:=uQ hP
  clear hP1 hP hlt Ba uV
  have AU:=uQ hed
  clear hed
  go_wp2_with (with_reducible apply bD)
  refine ⟨dV hS ah aY bF ak au ?_⟩
  go_wp2_with (with_reducible apply bD)
  refine ⟨gU (b:=bk) (o:=off+P0 * 38) (slotL bf x) ah hcell Tryz.underlying355 rfl (by rw [fP];kernel_rfl) ?_⟩
  go_wp2_with (with_reducible apply eU)
  refine ⟨dU yX hS rfl ?_⟩
  intro b9 w9 iG
  go_wp2_with (first|((with_reducible refine bY ⟨?_⟩);refine fE (slotL bf x).toArray iG ah ah (by rw [aaI,fP];rfl) bZ (by rw [aaI,fP];kernel_rfl) (by rw [adM];exact lQ bf x (xI _)) ?_;intro w10 dw)|(with_reducible apply bD))
  refine ⟨?_⟩
  clear hS iG hcell e0
  have f0:w10.cell? ⟨b9,0,none⟩=some (.int .i64 x.st):=dw.cellP aT 0 (by rw [abL];rfl)
  have f1:w10.rangeAt b9 1 (aA x.key):=qZ (dw.pick aT)
  have f2:w10.cell? ⟨p,0,none⟩=some (.slice (some ⟨bk,off,none⟩) s.length lc):=dw.cellP aY 0 rfl
  have hend:Sat w0 w10 (pt bB (.cells (aA k).toArray 31 (0,0))::fU p 314 (.slice (some ⟨bk,off,none⟩) s.length lc) n gn::aC 355 38 (.slice (some ⟨bk,off,none⟩) s.length lc) (s.flatMap (slotL bf))::F):=dw.sb
  have h3:x.st=0∨x.st=1∨x.st=2:=oQ
  rcases h3 with h3|h3|h3
  ·have h4:e=d:=l9.out.2 (.inl h3)
   rw [h3]at f0
   have Hdx:=uQ (show decide (x.st=1)=false by rw [h3];rfl)
   have mZ:=uQ (show (x.st:Int)=0 by rw [h3];rfl)
   clear l9 hst h3 f1 f2 hq hw1 hw2 hw3 c0 c1 c2
   subst h4
   go_wp2_with fail
   have kJ:=dw.drew
   clear dw
   refine dH [4,7] (fun w'=>w'.cell? ⟨b9,0,none⟩=some (.int .i64 0)) au ?_
   have hG:World.cell? _ ⟨b9,0,none⟩=some (.int .i64 0):=kJ.cellP aT 0 (by rw [abL,← mZ.out];rfl)
   clear f0
   refine rP 0 ?_ (y:=aX)
   refine rP 1 ?_ (y:=aX)
   refine rP 2 ?_ (y:=cO)
   refine rt 3 (h:=?_)
   refine rP 4 ?_ (y:=jm)
   refine rP 5 ?_ (y:=fJ)
   refine rP 6 ?_ (y:=fJ)
   refine rP 7 ?_ (y:=fJ)
   refine dD au ?_
   clear hG
   try simp only [iO]
   try go_frame
   go_wp2_with fail
   go_ret3
   exact ⟨_,rfl,x,by rw [HP.out];exact Hx.out,by rw [HP.out,Hdx.out];rfl,kJ.sb⟩
  ·have f3:w10.rangeAt bB 0 (aA k):=oN (dw.pk (A:=pt bB (.cells (aA k).toArray 31 (0,0))))
   have hkk:=Ku x.key k Hxk.out Hk.out
   rw [h3]at f0
   by_cases hxk:x.key=k
   ·have h4:e=d:=l9.out.2 (.inr ⟨h3,hxk⟩)
    have Hdx:=uQ (show decide (x.st=1)=true by rw [h3];rfl)
    have mZ:=uQ (show (x.st:Int)=1 by rw [h3];rfl)
    rw [aiu hxk]at hkk
    clear l9 hst h3 hxk hq hw1 hw2 hw3 c0 c1 c2 f2
    subst h4
    go_wp2_with (first
     |((with_reducible refine vC ⟨?_⟩);refine wV (o:=1) ah ah (aA x.key) _ f1 Tryz.underlying31 rfl (by rw [aV,Hxk.out];kernel_rfl) ?_)
     |((with_reducible refine vC ⟨?_⟩);refine wV (o:=0) ah ah (aA k) _ f3 Tryz.underlying31 rfl (by rw [aV,Hk.out];kernel_rfl) ?_))
    clear hkk f1 f3
    have kJ:=dw.drew
    clear dw
    refine dH [4,7] (fun w'=>w'.cell? ⟨b9,0,none⟩=some (.int .i64 1)) au ?_
    have hG:World.cell? _ ⟨b9,0,none⟩=some (.int .i64 1):=kJ.cellP aT 0 (by rw [abL,← mZ.out];rfl)
    clear f0
    refine rP 0 ?_ (y:=aX)
    refine rP 1 ?_ (y:=aX)
    refine rP 2 ?_ (y:=cO)
    refine rt 3 (h:=?_)
    refine rP 4 ?_ (y:=jm)
    refine rP 5 ?_ (y:=fJ)
    refine rP 6 ?_ (y:=fJ)
    refine rP 7 ?_ (y:=fJ)
    refine dD au ?_
    clear hG
    try simp only [iO]
    try go_frame
    go_wp2_with fail
    go_ret3
    exact ⟨_,rfl,x,by rw [HP.out];exact Hx.out,by rw [HP.out,Hdx.out];rfl,kJ.sb⟩
   ·have h4:e<d:=by
     have:=AU.out
     rcases akf e d with q|q
     ·exact q
     ·exact absurd (l9.out.1 oQ) (fun h=>h.elim (fun h=>by omega) fun h=>hxk h.2)
    rw [aex hxk]at hkk
    have H4:=uQ h4
    clear l9 hst h3 hxk h4
    go_wp2_with (first
     |((with_reducible refine vC ⟨?_⟩);refine wV (o:=1) ah ah (aA x.key) _ f1 Tryz.underlying31 rfl (by rw [aV,Hxk.out];kernel_rfl) ?_)
     |((with_reducible refine vC ⟨?_⟩);refine wV (o:=0) ah ah (aA k) _ f3 Tryz.underlying31 rfl (by rw [aV,Hk.out];kernel_rfl) ?_))
    go_roundg (d - (e+1))
    case measure=>have:=H4.out;omega
    case rel=>exact ⟨e+1,rfl,H4.out,by rw [AA.out],by first|rfl|go_num,dw.sb⟩
  ·have h4:e<d:=by
    have:=AU.out
    rcases akf e d with q|q
    ·exact q
    ·exact absurd (l9.out.1 oQ) (fun h=>h.elim (fun h=>by omega) fun h=>by omega)
   rw [h3]at f0
   have H4:=uQ h4
   clear l9 hst h3 f1 h4
   go_wp2_with fail
   go_roundg (d - (e+1))
   case measure=>have:=H4.out;omega
   case rel=>exact ⟨e+1,rfl,H4.out,by rw [AA.out],by first|rfl|go_num,dw.sb⟩
end
section
variable {w0 w:World}{F R:List aG}{p n gn d c:Nat}{sv v:Value}{k:aj.Bs}{s:List (Tab.Slot (Seg.aU))}{a:Option Addr}
theorem zS (hl:0<s.length) (h:Sat w0 w (fU p 180 (.slice a s.length c) n gn::F)) :
  Calls Tryz.prog 94 #[ptr p] w (aO fun v w'=>v = .bool true∧w=w'):=by
 have e0:w.cell? ⟨p,0,none⟩=some (.slice a s.length c):=h.cellAt 0 _ rfl
 have c1:(0:Int)<(s.length:Int):=oQ
 go_enter Tryz.func94,Tryz.ntmps94
 go_wp2
 go_ret
 exact ⟨_,rfl,rfl,rfl⟩
set_option maxRecDepth 20000 in
theorem BH (g:Tab.Good s) (hc:s.length≤1073741824) (hk:k.length=32) (he:Tab.Ends s k d) (h:Sat w0 w (fU p 180 sv n gn::aC 178 36 sv (s.flatMap (slotL aK))::F)) :
  Calls Tryz.prog 111 #[ptr p,.agg (aA k).toArray] w (aO fun v w'=>∃ x,s[Tab.pos k s.length d]?=some x∧v = .tuple #[.int .i64 (Tab.pos k s.length d:Nat),.int .i64 ((d:Int)+1),.bool (decide (x.st=1))] ∧
   Sat w0 w' (fU p 180 sv n gn::aC 178 36 sv (s.flatMap (slotL aK))::F)):=by
 have Hk:=uQ hk;have HG:=uQ g;have HE:=uQ he;have Hc:=uQ hc
 have Hlen:=uQ (show ∀ x∈s,(slotL aK x).length=36 from fun x hx=>iT aK x (g.key x hx) 3 (oM _))
 obtain ⟨la,lc,rfl⟩:=iD Hlen.out (Sat.rd (h.pick aZ)) aN
 obtain ⟨j,hj,_⟩:=g.pow
 have Cj:j<40:=by
  rcases akf j 40 with q|q
  ·exact q
  ·have:2^40≤2^j:=akv aN q
   have BO:(2:Nat)^40=1099511627776:=by decide
   omega
 have Hj:=uQ hj;have AX:=uQ Cj
 have Hd:=uQ (show d<s.length from he.lt)
 have hp0:0<s.length:=g.jG
 have iV:=uQ hp0
 have Jo:=uQ (Tab.VL (k:=k) hp0)
 clear hj Cj hk g he hc hp0
 go_enter Tryz.func111,Tryz.ntmps111
 go_wp2_with ((with_reducible refine eG ⟨?_⟩);refine eH aQ ak ak ?_;intro bB wB hB)
 have hB1:=hB.drew
 clear hB
 refine dH [6,7] (fun w'=>w'.rangeAt bB 0 (aA k)∧w'.cell? ⟨p,0,none⟩=some (.slice la s.length lc)) au ?_
 have hG:World.rangeAt _ bB 0 (aA k)∧World.cell? _ ⟨p,0,none⟩=some (.slice la s.length lc):=⟨oN (hB1.pk (A:=pt bB (.cells (aA k).toArray 31 (0,0)))),hB1.cellP aY 0 rfl⟩
 refine eP 0 ak au bK (ig (b:=bB) (o:=0) (aA k) ah Tryz.underlying31 rfl (by rw [aV,Hk.out];kernel_rfl) (fun w hw=>hw.1)) aQ gQ ?_
 refine rP 1 ?_ (y:=aX)
 refine rP 2 ?_ (y:=dZ)
 refine rP 3 ?_ (y:=cO)
 refine rt 4 (h:=?_)
 refine rP 5 ?_ (y:=(nZ ak dh))
 clear hG
 have hh:=TV k Hk.out j AX.out hB1
 rw [← Hj.out]at hh
 refine bV 6 ak au (fun K hK=>?_)
 (refine gy au ak ak ?_)
 refine hh.mono ?_
 rintro ee w2 ⟨v,rfl,rfl,hS2⟩
 refine hK _ _ (.inl rfl) ?_
 clear hK hh hB1
 refine rP 7 ?_ (y:=fJ)
 refine dD au ?_
 try simp only [iO]
 try go_frame
 rw [← Jo.out]
 go_wp2_with fail
 go_loopg [7,8] d (fun g aq sq wr=>∃ e:Nat,g=d - e∧e≤d∧aq = .int .i64 (Tab.pos k s.length e:Nat)∧sq = .int .i64 ((e:Int)+1) ∧
  Sat w0 wr (pt bB (.cells (aA k).toArray 31 (0,0))::fU p 180 (.slice la s.length lc) n gn::aC 178 36 (.slice la s.length lc) (s.flatMap (slotL aK))::F))
 case atStart=>exact ⟨0,rfl,afm _,rfl,rfl,hS2.sb⟩
 case round=>
  obtain ⟨e,rfl,hed,rfl,rfl,hS⟩:=hrel
  clear hS2
  have hlt:=Tab.lX (k:=k) (d:=e) iV.out
  have hdl:=Hd.out
  have hcl:=Hc.out
  obtain ⟨x,hx⟩:∃ x,s[Tab.pos k s.length e]?=some x:=⟨_,aak hlt⟩
  have hxm:=abA hx
  have hst:=HG.out.st x hxm
  have Hxk:=uQ (HG.out.key x hxm)
  obtain ⟨bk,off,c',hsv,hcell⟩:=iC Hlen.out (Sat.rd (hS.pick fG)) hx aN
  have uV:=uQ (Tab.VK (k:=k) (d:=e) iV.out)
  have Ba:=uQ (JF (Tab.pos k s.length e+1) j oQ (by have:=AX.out;omega))
  have l9:=uQ (show e=d↔x.stop k from ⟨fun h=>by
    subst h
    obtain ⟨y,hy,hs⟩:=HE.out.here
    rw [hx]at hy;cases hy;exact hs,fun h=>by
    rcases akf e d with q|q
    ·exact absurd ⟨x,hx,h⟩ (HE.out.no e q)
    ·omega⟩)
  have Hx:=uQ hx
  cases hsv
  have c0:(0:Int)≤((Tab.pos k s.length e:Nat):Int):=oQ
  have c1:((Tab.pos k s.length e:Nat):Int)<(s.length:Int):=oQ
  have c2:Tab.pos k s.length e<s.length:=hlt
  have e0:wr.cell? ⟨p,0,none⟩=some (.slice (some ⟨bk,off,none⟩) s.length lc):=hS.cellP aY 0 rfl
  have fP:=Hlen.out x hxm
  clear hx hxm
  have hq:bits .and .i64 (((Tab.pos k s.length e:Nat):Int)+1) ((s.length:Int) - 1)=((Tab.pos k s.length (e+1):Nat):Int):=by
   have h1:=Ba.out
   rw [← Hj.out,uV.out]at h1
   rw [← h1]
   congr 1
   have:=iV.out
   omega
  have hw1:IntKind.i64.wrap (((Tab.pos k s.length e:Nat):Int)+1)=((Tab.pos k s.length e:Nat):Int)+1:=acI _ oQ
  have hw2:IntKind.i64.wrap ((s.length:Int) - 1)=(s.length:Int) - 1:=acI _ oQ
  have hw3:IntKind.i64.wrap ((e:Int)+1+1)=(e:Int)+1+1:=acI _ oQ
  clear hdl hcl
  generalize hP1:Tab.pos k s.length (e+1)=P1 at hq
  have AA:=uQ hP1
  generalize hP:Tab.pos k s.length e=P0 at *
  have HP:=uQ hP
  clear hP1 hP hlt Ba uV
  have AU:=uQ hed
  clear hed
  go_wp2_with (with_reducible apply bD)
  refine ⟨dV hS ah aY bF ak au ?_⟩
  go_wp2_with (with_reducible apply bD)
  refine ⟨gU (b:=bk) (o:=off+P0 * 36) (slotL aK x) ah hcell Tryz.underlying178 rfl (by rw [fP];kernel_rfl) ?_⟩
  go_wp2_with (with_reducible apply eU)
  refine ⟨dU uN hS rfl ?_⟩
  intro b9 w9 iG
  go_wp2_with (first|((with_reducible refine bY ⟨?_⟩);refine fE (slotL aK x).toArray iG ah ah (by rw [aaI,fP];rfl) bZ (by rw [aaI,fP];kernel_rfl) (by rw [adM];exact lQ aK x (uF _)) ?_;intro w10 dw)|(with_reducible apply bD))
  refine ⟨?_⟩
  clear hS iG hcell e0
  have f0:w10.cell? ⟨b9,0,none⟩=some (.int .i64 x.st):=dw.cellP aT 0 (by rw [abL];rfl)
  have f1:w10.rangeAt b9 1 (aA x.key):=qZ (dw.pick aT)
  have f2:w10.cell? ⟨p,0,none⟩=some (.slice (some ⟨bk,off,none⟩) s.length lc):=dw.cellP aY 0 rfl
  have hend:Sat w0 w10 (pt bB (.cells (aA k).toArray 31 (0,0))::fU p 180 (.slice (some ⟨bk,off,none⟩) s.length lc) n gn::aC 178 36 (.slice (some ⟨bk,off,none⟩) s.length lc) (s.flatMap (slotL aK))::F):=dw.sb
  have h3:x.st=0∨x.st=1∨x.st=2:=oQ
  rcases h3 with h3|h3|h3
  ·have h4:e=d:=l9.out.2 (.inl h3)
   rw [h3]at f0
   have Hdx:=uQ (show decide (x.st=1)=false by rw [h3];rfl)
   have mZ:=uQ (show (x.st:Int)=0 by rw [h3];rfl)
   clear l9 hst h3 f1 f2 hq hw1 hw2 hw3 c0 c1 c2
   subst h4
   go_wp2_with fail
   have kJ:=dw.drew
   clear dw
   refine dH [4,7] (fun w'=>w'.cell? ⟨b9,0,none⟩=some (.int .i64 0)) au ?_
   have hG:World.cell? _ ⟨b9,0,none⟩=some (.int .i64 0):=kJ.cellP aT 0 (by rw [abL,← mZ.out];rfl)
   clear f0
   refine rP 0 ?_ (y:=aX)
   refine rP 1 ?_ (y:=aX)
   refine rP 2 ?_ (y:=cO)
   refine rt 3 (h:=?_)
   refine rP 4 ?_ (y:=jm)
   refine rP 5 ?_ (y:=fJ)
   refine rP 6 ?_ (y:=fJ)
   refine rP 7 ?_ (y:=fJ)
   refine dD au ?_
   clear hG
   try simp only [iO]
   try go_frame
   go_wp2_with fail
   go_ret3
   exact ⟨_,rfl,x,by rw [HP.out];exact Hx.out,by rw [HP.out,Hdx.out];rfl,kJ.sb⟩
  ·have f3:w10.rangeAt bB 0 (aA k):=oN (dw.pk (A:=pt bB (.cells (aA k).toArray 31 (0,0))))
   have hkk:=Ku x.key k Hxk.out Hk.out
   rw [h3]at f0
   by_cases hxk:x.key=k
   ·have h4:e=d:=l9.out.2 (.inr ⟨h3,hxk⟩)
    have Hdx:=uQ (show decide (x.st=1)=true by rw [h3];rfl)
    have mZ:=uQ (show (x.st:Int)=1 by rw [h3];rfl)
    rw [aiu hxk]at hkk
    clear l9 hst h3 hxk hq hw1 hw2 hw3 c0 c1 c2 f2
    subst h4
    go_wp2_with (first
     |((with_reducible refine vC ⟨?_⟩);refine wV (o:=1) ah ah (aA x.key) _ f1 Tryz.underlying31 rfl (by rw [aV,Hxk.out];kernel_rfl) ?_)
     |((with_reducible refine vC ⟨?_⟩);refine wV (o:=0) ah ah (aA k) _ f3 Tryz.underlying31 rfl (by rw [aV,Hk.out];kernel_rfl) ?_))
    clear hkk f1 f3
    have kJ:=dw.drew
    clear dw
    refine dH [4,7] (fun w'=>w'.cell? ⟨b9,0,none⟩=some (.int .i64 1)) au ?_
    have hG:World.cell? _ ⟨b9,0,none⟩=some (.int .i64 1):=kJ.cellP aT 0 (by rw [abL,← mZ.out];rfl)
    clear f0
    refine rP 0 ?_ (y:=aX)
    refine rP 1 ?_ (y:=aX)
    refine rP 2 ?_ (y:=cO)
    refine rt 3 (h:=?_)
    refine rP 4 ?_ (y:=jm)
    refine rP 5 ?_ (y:=fJ)
    refine rP 6 ?_ (y:=fJ)
    refine rP 7 ?_ (y:=fJ)
    refine dD au ?_
    clear hG
    try simp only [iO]
    try go_frame
    go_wp2_with fail
    go_ret3
    exact ⟨_,rfl,x,by rw [HP.out];exact Hx.out,by rw [HP.out,Hdx.out];rfl,kJ.sb⟩
   ·have h4:e<d:=by
     have:=AU.out
     rcases akf e d with q|q
     ·exact q
     ·exact absurd (l9.out.1 oQ) (fun h=>h.elim (fun h=>by omega) fun h=>hxk h.2)
    rw [aex hxk]at hkk
    have H4:=uQ h4
    clear l9 hst h3 hxk h4
    go_wp2_with (first
     |((with_reducible refine vC ⟨?_⟩);refine wV (o:=1) ah ah (aA x.key) _ f1 Tryz.underlying31 rfl (by rw [aV,Hxk.out];kernel_rfl) ?_)
     |((with_reducible refine vC ⟨?_⟩);refine wV (o:=0) ah ah (aA k) _ f3 Tryz.underlying31 rfl (by rw [aV,Hk.out];kernel_rfl) ?_))
    go_roundg (d - (e+1))
    case measure=>have:=H4.out;omega
    case rel=>exact ⟨e+1,rfl,H4.out,by rw [AA.out],by first|rfl|go_num,dw.sb⟩
  ·have h4:e<d:=by
    have:=AU.out
    rcases akf e d with q|q
    ·exact q
    ·exact absurd (l9.out.1 oQ) (fun h=>h.elim (fun h=>by omega) fun h=>by omega)
   rw [h3]at f0
   have H4:=uQ h4
   clear l9 hst h3 f1 h4
   go_wp2_with fail
   go_roundg (d - (e+1))
   case measure=>have:=H4.out;omega
   case rel=>exact ⟨e+1,rfl,H4.out,by rw [AA.out],by first|rfl|go_num,dw.sb⟩
end
def dY (p:Nat) (m:aj.Bs→Option (Rep.dF)) (B:Nat):aG:=fun h=>∃ (t:Tab.Tb (Rep.dF)) (sv:Value),(t.Ok∧t.Is m∧t.n+t.gone≤B)∧stars [fU p 314 sv t.n t.gone,aC 355 38 sv (t.slots.flatMap (slotL bf))] h
theorem D5:jy Tryz.prog 248=some (.agg (bf ⟨0,Seg.aU.zero,0⟩).toArray):=by kernel_rfl
section
variable {w0 w:World}{F R:List aG}{p B:Nat}{sv v:Value}{k:aj.Bs}{m:aj.Bs→Option (Rep.dF)}{t:Tab.Tb (Rep.dF)}
theorem dY.open (h:Sat w0 w (dY p m B::F)):∃ (t:Tab.Tb (Rep.dF)) (sv:Value),(t.Ok∧t.Is m∧t.n+t.gone≤B)∧Sat w0 w (fU p 314 sv t.n t.gone::aC 355 38 sv (t.slots.flatMap (slotL bf))::F):=by
 obtain ⟨ha,x,hx,q,r,dd,rfl,⟨t,sv,hin,hp⟩,hq⟩:=h
 refine ⟨t,sv,hin,ha,_,hx,?_⟩
 show stars ([fU p 314 sv t.n t.gone,aC 355 38 sv (t.slots.flatMap (slotL bf))]++F) _
 rw [pK]
 exact ⟨q,r,dd,rfl,hp,hq⟩
theorem dY.shut (h1:t.Ok) (h2:t.Is m) (h3:t.n+t.gone≤B) (h:Sat w0 w (fU p 314 sv t.n t.gone::aC 355 38 sv (t.slots.flatMap (slotL bf))::F)):Sat w0 w (dY p m B::F):=
 Sat.join (M:=[fU p 314 sv t.n t.gone,aC 355 38 sv (t.slots.flatMap (slotL bf))]) h fun _ hx=>⟨t,sv,⟨h1,h2,h3⟩,hx⟩
theorem aeM (h:Sat w0 w F):Calls Tryz.prog 149 #[] w (aO fun v w'=>∃ p,v=ptr p∧Sat w0 w' (dY p (fun _=>none) 0::F)):=by
 go_enter Tryz.func149,Tryz.ntmps149
 go_wp2_with (first
  |((with_reducible refine at_make ⟨?_⟩);refine Ik (e:=355) (sz:=38) (dS:=80) (n:=8) au yX h ah ah aN aN ?_;intro bM wM hM)
  |((with_reducible refine eG ⟨?_⟩);refine eH hM ak ak ?_;intro bB wB hB))
 go_ret
 refine ⟨_,rfl,bB,rfl,?_⟩
 have e:(List.replicate 8 (slotL bf ⟨0,aj.zero32,mW⟩)).flatten=(List.replicate 8 (⟨0,aj.zero32,mW⟩:Tab.Slot (Rep.dF))).flatMap (slotL bf):=(GH 8 _).symm
 rw [e]at hB
 exact dY.shut (t:=⟨List.replicate 8 ⟨0,aj.zero32,mW⟩,0,0⟩) (Tab.U8 aN rfl) (Tab.U6 rfl 0 0) (acy 0) hB
set_option maxRecDepth 20000 in
theorem acv (hB:B≤268435000) (hk:k.length=32) (h:Sat w0 w (dY p m B::F)) :
  Calls Tryz.prog 205 #[ptr p,.agg (aA k).toArray] w (aO fun v w'=>v = .tuple #[.agg (bf ((m k).getD ⟨0,Seg.aU.zero,0⟩)).toArray,.bool (m k).isSome]∧Sat w0 w' (dY p m B::F)):=by
 obtain ⟨t,sv,⟨ok,is,hb⟩,hR⟩:=dY.open h
 obtain ⟨d,he⟩:=ok.ends k
 have hsz:t.slots.length≤1073741824:=by have:=ok.size;omega
 have Hlen:=uQ (show ∀ x∈t.slots,(slotL bf x).length=38 from fun x hx=>iT bf x (ok.good.key x hx) 5 (rG _))
 obtain ⟨la,lc,rfl⟩:=iD Hlen.out (Sat.rd (hR.pick aZ)) aN
 have Hk:=uQ hk;have bU:=uQ ok;have iK:=uQ is;have Hb:=uQ hb;have He:=uQ he;have gq:=uQ hsz
 have iV:=uQ ok.good.jG
 clear h hk ok is hb he hsz hB
 go_enter Tryz.func205,Tryz.ntmps205
 go_wp2_with (first|((with_reducible refine eG ⟨?_⟩);refine eH aQ ak ak ?_;intro bB wB hB)|(with_reducible apply eU))
 refine ⟨dU D5 hB rfl ?_⟩
 intro b4 w4 hS4
 go_wp2_with (with_reducible apply eU)
 refine ⟨dU D5 hS4 rfl ?_⟩
 intro b6 w6 hS6
 have uh:Sat w0 w6 (fU p 314 (.slice la t.slots.length lc) t.n t.gone::pt b6 (.cells (bf mW).toArray 248 (0,0))::pt b4 (.cells (bf mW).toArray 248 (0,0))::pt bB (.cells (aA k).toArray 31 (0,0))::aC 355 38 (.slice la t.slots.length lc) (t.slots.flatMap (slotL bf))::F):=hS6.sb
 clear hB hS4 hS6 hR
 go_wp2_with fail
 refine (MH iV.out uh).mono ?_
 rintro ee w7 ⟨v,rfl,rfl,rfl⟩
 go_wp2_with ((with_reducible refine bD ⟨?_⟩);refine gI uh ah (aW (aW (aW aT))) Tryz.underlying31 rfl (by rw [aaI,aV,Hk.out];kernel_rfl) ?_)
 have hf:=EU bU.out.good gq.out Hk.out He.out (uh.sb:Sat w0 w6 (fU p 314 (.slice la t.slots.length lc) t.n t.gone::aC 355 38 (.slice la t.slots.length lc) (t.slots.flatMap (slotL bf))::pt b6 (.cells (bf mW).toArray 248 (0,0))::pt b4 (.cells (bf mW).toArray 248 (0,0))::F))
 clear uh
 refine hf.mono ?_
 rintro ee w8 ⟨v,rfl,x,hx,rfl,iR⟩
 clear hf
 obtain ⟨m1,m2⟩:=iK.out.some bU.out He.out hx
 have hxm:=abA hx
 have hxk:=bU.out.good.key x hxm
 obtain ⟨bk,off,c',hsv,hcell⟩:=iC Hlen.out (Sat.rd (iR.pick aZ)) hx aN
 cases hsv
 have hlt:=Tab.lX (k:=k) (d:=d) iV.out
 have hval:∀ j v,(bf x.val)[j]?=some v→w8.cell? ⟨bk,off+Tab.pos k t.slots.length d * 38+33+j,none⟩=some v:=fun j v hj=>by
  rw [akU _ 33 j]
  exact hcell (33+j) v (NY bf x hxk hj)
 clear hcell hx hxm
 generalize Tab.pos k t.slots.length d=P0 at *
 have c0:(0:Int)≤(P0:Int):=oQ
 have c1:(P0:Int)<(t.slots.length:Int):=oQ
 have e0:w8.cell? ⟨p,0,none⟩=some (.slice (some ⟨bk,off,none⟩) t.slots.length lc):=iR.cellP aY 0 rfl
 by_cases h1:x.st=1
 ·have hd:decide (x.st=1)=true:=aiu h1
  have Hm:=uQ (m1 h1)
  clear m1 m2 h1
  go_wp2_with (first
   |((with_reducible refine bD ⟨?_⟩);refine dV iR ah aY bF ak au ?_)
   |((with_reducible refine bD ⟨?_⟩);refine gU (b:=bk) (o:=off+P0 * 38+33) (bf x.val) ah hval Tryz.underlying248 rfl au ?_)
   |((with_reducible refine bY ⟨?_⟩);refine fE (bf x.val).toArray iR ah ah ah (jh (jh (jh bZ))) au ah ?_;intro w10 dw))
  refine ⟨rfl,_,lN rfl dw ah aY Tryz.underlying248 rfl au,_,rfl,?_,dY.shut bU.out iK.out Hb.out (dw.sb)⟩
  rw [Hm.out];rfl
 ·have hd:decide (x.st=1)=false:=aex h1
  have Hm:=uQ (m2 h1)
  clear m1 m2 h1
  go_wp2_with (first
   |((with_reducible refine bD ⟨?_⟩);refine gI iR ah (aW (aW (aT (A:=pt b6 (.cells (bf mW).toArray 248 (0,0)))))) Tryz.underlying248 rfl au ?_)
   |((with_reducible refine bY ⟨?_⟩);refine fE (bf mW).toArray iR ah ah ah (jh (jh (jh bZ))) au ah ?_;intro w10 dw))
  refine ⟨rfl,_,lN rfl dw ah (aW (aW (aW aT))) Tryz.underlying248 rfl au,_,rfl,?_,dY.shut bU.out iK.out Hb.out (dw.sb)⟩
  rw [Hm.out];rfl
end
section
variable {w0 w:World}{F R:List aG}{p B N:Nat}{sv v:Value}{k:aj.Bs}{m:aj.Bs→Option (Rep.dF)}{t:Tab.Tb (Rep.dF)}
set_option maxRecDepth 20000 in
theorem af7 (ok:t.Ok) (hN:t.n≤N) (hNb:N≤134217728) (ac4:t.slots.length≤1073741824) (h:Sat w0 w (fU p 314 sv t.n t.gone::aC 355 38 sv (t.slots.flatMap (slotL bf))::F)) :
  Calls Tryz.prog 242 #[ptr p,.int .i64 N] w (aO fun _ w'=>∃ s' sv',Tab.uX t s' N∧Sat w0 w' (fU p 314 sv' t.n 0::aC 355 38 sv' (s'.flatMap (slotL bf))::F)):=by
 have bU:=uQ ok;have HN:=uQ hN;have YG:=uQ hNb
 have Hlen:=uQ (show ∀ x∈t.slots,(slotL bf x).length=38 from fun x hx=>iT bf x (ok.good.key x hx) 5 (rG _))
 obtain ⟨la,lc,rfl⟩:=iD Hlen.out (Sat.rd (h.pick aZ)) aN
 have hw0:IntKind.i64.wrap (2 * (N:Int))=2 * (N:Int):=acI _ oQ
 have adp:wrap64 (2 * (N:Int))=2 * (N:Int):=ajM _ oQ
 clear ok hN
 go_enter Tryz.func242,Tryz.ntmps242
 go_wp2_with fail
 go_loopg [4] (4 * N) (fun g cq wr=>∃ c:Nat,g=4 * N+8 - c∧cq = .int .i64 c∧(∃ j,c=2^j∧3≤j)∧8≤c∧(c=8∨c<4 * N)∧wr=w)
 case atStart=>exact ⟨8,by omega,rfl,⟨3,rfl,acy 3⟩,acy 8,.inl rfl,rfl⟩
 case round=>
  obtain ⟨c,rfl,rfl,⟨j,hj,hj3⟩,hc8,hc,rfl⟩:=hrel
  by_cases hlt:c<2 * N
  ·have c1:(c:Int)<2 * (N:Int):=by omega
   have hw1:IntKind.i64.wrap ((c:Int) * 2)=(c:Int) * 2:=acI _ oQ
   have adq:wrap64 ((c:Int) * 2)=(c:Int) * 2:=ajM _ oQ
   have Hj:=uQ hj;have I7:=uQ hj3;have bT:=uQ hlt;have xg:=uQ hc8
   clear hj hj3 hlt hc hc8
   go_wp2_with fail
   go_roundg (4 * N+8 - c * 2)
   case measure=>have:=bT.out;have:=xg.out;omega
   case rel=>exact ⟨c * 2,rfl,by first|rfl|go_num,⟨j+1,by rw [alA,Hj.out],by have:=I7.out;omega⟩,by have:=xg.out;omega,.inr (by have:=bT.out;omega),rfl⟩
  ·have c1:¬ (c:Int)<2 * (N:Int):=by omega
   have HC:=uQ (show (∃ j,c=2^j∧3≤j)∧2 * N≤c∧8≤c∧(c=8∨c<4 * N) from ⟨⟨j,hj,hj3⟩,by omega,hc8,hc⟩)
   have hcb:c≤1073741824:=oQ
   have xk:=uQ hcb
   clear hj hj3 hlt hc hc8 hw0 hcb hNb
   go_wp2_with (first
    |((with_reducible refine bD ⟨?_⟩);refine dV h ah aY bF ak au ?_)
    |((with_reducible refine at_make ⟨?_⟩);refine Ik (e:=355) (sz:=38) (dS:=80) (n:=c) au yX h ah ah (by have:=xk.out;omega) (by have:=xk.out;omega) ?_;intro bM wM hM)
    |((with_reducible refine bY ⟨?_⟩);refine eY aQ ah ak pQ eF bF au ah ?_;intro wS hS))
   have e8:(List.replicate c (slotL bf ⟨0,aj.zero32,mW⟩)).flatten=(List.replicate c (⟨0,aj.zero32,mW⟩:Tab.Slot (Rep.dF))).flatMap (slotL bf):=(GH c _).symm
   rw [e8]at hS
   have hS0:Sat w0 _ (fU p 314 (.slice (some ⟨bM,0,none⟩) c c) t.n 0::aC 355 38 (.slice (some ⟨bM,0,none⟩) c c) ((List.replicate c (⟨0,aj.zero32,mW⟩:Tab.Slot (Rep.dF))).flatMap (slotL bf))::aC 355 38 (.slice la t.slots.length lc) (t.slots.flatMap (slotL bf))::F):=hS.sb
   clear hS hM h e8 c1
   go_wp2_with fail
   go_loopg [31] t.slots.length (fun g iq wr=>∃ (i:Nat) (cur:List (Tab.Slot (Rep.dF))),g=t.slots.length - i∧i≤t.slots.length∧iq = .int .i64 i∧Tab.Half t.slots cur i∧cur.length=c ∧
    Sat w0 wr (fU p 314 (.slice (some ⟨bM,0,none⟩) c c) t.n 0::aC 355 38 (.slice (some ⟨bM,0,none⟩) c c) (cur.flatMap (slotL bf))::aC 355 38 (.slice la t.slots.length lc) (t.slots.flatMap (slotL bf))::F))
   case atStart=>exact ⟨0,_,rfl,afm _,rfl,Tab.half_start HC.out.1 aN rfl,ajI,hS0⟩
   case round=>
    obtain ⟨i,cur,rfl,hi,rfl,hH,hcl,hS⟩:=hrel
    clear hS0
    have HH:=uQ hH;have iF:=uQ hcl
    by_cases hlt:i<t.slots.length
    rotate_left
    ·obtain rfl:i=t.slots.length:=by omega
     have c1:¬ (t.slots.length:Int)<(t.slots.length:Int):=oQ
     clear hlt hH hi
     go_wp2_with fail
     go_end0
     obtain ⟨q1,q2,q3,q4⟩:=HH.out.done
     exact ⟨_,rfl,cur,⟨q1,q2,q3.trans bU.out.n.symm,q4.trans bU.out.n.symm,by rw [iF.out];exact HC.out.2.1,by rw [iF.out];exact HC.out.2.2.1,by rw [iF.out];exact HC.out.2.2.2⟩,_,hS.sb⟩
    have c1:(i:Int)<(t.slots.length:Int):=oQ
    have hwi:=vU (i:=i)
    obtain ⟨x,hx⟩:∃ x,t.slots[i]?=some x:=⟨_,aak hlt⟩
    have hxm:=abA hx
    have hst:=bU.out.good.st x hxm
    have Hxk:=uQ (bU.out.good.key x hxm)
    obtain ⟨bk,off,c',hsv,hcell⟩:=iC Hlen.out (Sat.rd (hS.pick fG)) hx aN
    cases hsv
    have fP:=Hlen.out x hxm
    have Hx:=uQ hx;have bT:=uQ hlt
    clear hx hxm hlt hH hi
    go_wp2_with (first
     |((with_reducible refine bD ⟨?_⟩);refine gU (b:=bk) (o:=off+i * 38) (slotL bf x) ah hcell Tryz.underlying355 rfl (by rw [fP];kernel_rfl) ?_)
     |(with_reducible apply eU))
    refine ⟨dU yX hS rfl ?_⟩
    intro b7 w7 hS7
    go_wp2_with (first|((with_reducible refine bY ⟨?_⟩);refine fE (slotL bf x).toArray hS7 ah ah (by rw [aaI,fP];rfl) bZ (by rw [aaI,fP];kernel_rfl) (by rw [adM];exact lQ bf x (xI _)) ?_;intro w10 dw)|(with_reducible apply bD))
    refine ⟨?_⟩
    clear hS hS7 hcell
    have f0:w10.cell? ⟨b7,0,none⟩=some (.int .i64 x.st):=dw.cellP aT 0 (by rw [abL];rfl)
    have f1:w10.rangeAt b7 1 (aA x.key):=qZ (dw.pick aT)
    by_cases h1:x.st=1
    rotate_left
    ·have hst1:((x.st:Int)==1)=false:=by rw [adW];omega
     have H1:=uQ h1
     clear h1 f1
     go_wp2_with fail
     go_roundg (t.slots.length - (i+1))
     case measure=>have:=bT.out;omega
     case rel=>exact ⟨i+1,cur,rfl,bT.out,by first|rfl|go_num,HH.out.skip Hx.out H1.out,iF.out,dw.sb⟩
    ·have hus:Tab.used cur<cur.length:=by
      have h2:=HH.out.nu
      have h3:=Tab.Si t.slots i
      have h4:=bU.out.n
      have h5:=HN.out
      have h6:=HC.out
      rw [iF.out];omega
     obtain ⟨dd,hdd⟩:=Tab.Kt (k:=x.key) HH.out.good (Tab.KA hus)
     have H1:=uQ h1;have yY:=uQ hdd
     have hst1:((x.st:Int)==1)=true:=by rw [h1];rfl
     have AP:=uQ (show ∀ y∈cur,(slotL bf y).length=38 from fun y hy=>iT bf y (HH.out.good.key y hy) 5 (rG _))
     clear h1 hus hdd
     go_wp2_with ((with_reducible refine bD ⟨?_⟩);refine gU (b:=b7) (o:=1) (aA x.key) ah f1 Tryz.underlying31 rfl (by rw [aV,Hxk.out];kernel_rfl) ?_)
     have hf:=EU HH.out.good (by rw [iF.out];exact xk.out) Hxk.out yY.out (dw.sb:Sat w0 w10 (fU p 314 (.slice (some ⟨bM,0,none⟩) c c) t.n 0::aC 355 38 (.slice (some ⟨bM,0,none⟩) c c) (cur.flatMap (slotL bf))::pt b7 (.cells (slotL bf x).toArray 355 (0,0))::aC 355 38 (.slice (some ⟨bk,off,none⟩) t.slots.length lc) (t.slots.flatMap (slotL bf))::F))
     clear dw f0 f1
     refine hf.mono ?_
     rintro ee jd ⟨v,rfl,y,hy,rfl,kJ⟩
     clear hf hy
     have hlt2:=Tab.lX (k:=x.key) (d:=dd) HH.out.good.jG
     rw [iF.out]at hlt2
     have Bl:=uQ (Ac (f:=slotL bf) (k:=38) (i:=Tab.pos x.key cur.length dd) (x:=x) AP.out fP (Tab.lX HH.out.good.jG))
     have Bq:=uQ (HH.out.step bU.out.good Hx.out H1.out yY.out)
     rw [iF.out]at Bl Bq
     rw [iF.out]
     have hrl:(cur.flatMap (slotL bf)).length=38 * c:=by rw [iE AP.out,iF.out]
     generalize Tab.pos x.key c dd=P0 at *
     have c2:(0:Int)≤(P0:Int):=oQ
     have c3:(P0:Int)<(c:Int):=oQ
     go_wp2_with fail
     have hSd:=kJ.drew
     clear kJ
     refine dH [6,7] (fun w'=>w'.cell? ⟨p,0,none⟩=some (.slice (some ⟨bM,0,none⟩) c c)∧w'.rangeAt b7 0 (slotL bf x)) au ?_
     have hG:World.cell? _ ⟨p,0,none⟩=some (.slice (some ⟨bM,0,none⟩) c c)∧World.rangeAt _ b7 0 (slotL bf x):=⟨hSd.cellP aY 0 rfl,oN (hSd.pk (A:=pt b7 (.cells (slotL bf x).toArray 355 (0,0))))⟩
     refine rP 0 ?_ (y:=aX)
     refine rP 1 ?_ (y:=dZ)
     refine rP 2 ?_ (y:=cO)
     refine rt 3 (h:=?_)
     refine rP 4 ?_ (y:=aX)
     refine eP 5 ak au bK (ig (b:=b7) (o:=0) (slotL bf x) ah Tryz.underlying355 rfl (by rw [fP];kernel_rfl) (fun w hw=>hw.2)) aQ gQ ?_
     refine rP 6 ?_ (y:=gX)
     clear hG
     refine bV 7 ak au (fun K hK=>?_)
     refine xW (vs:=slotL bf x) (P0 * 38) hSd ak ak rfl (jh bZ) (by rw [fP,hrl];omega) (by rw [fP];kernel_rfl) (lQ bf x (xI _)) ?_
     intro w12 iP
     refine hK _ _ (.inl rfl) ?_
     clear hK hSd
     refine dD au ?_
     try simp only [iO]
     try go_frame
     rw [← Bl.out]at iP
     go_wp2_with fail
     go_roundg (t.slots.length - (i+1))
     case measure=>have:=bT.out;omega
     case rel=>exact ⟨i+1,_,rfl,bT.out,by first|rfl|go_num,Bq.out,by rw [aj0];exact iF.out,iP.sb⟩
end
theorem ag1 (k:aj.Bs) (hk:k.length=32) (v:Rep.dF) (w:World) :
  (Instr.build 355 #[(0,.int .i64 1),(1,.agg (aA k).toArray),(2,.agg (bf v).toArray)]).run Tryz.prog w = .ok (.agg (slotL bf ⟨1,k,v⟩).toArray) w:=by
 have hbk:(aA k).toArray.size=32:=by rw [aaI,aV,hk]
 refine (ak8 (P:=Tryz.prog) [(0,.int .i64 1),(1,.agg (aA k).toArray),(2,.agg (bf v).toArray)] afu yX (by
  intro p' hp
  simp only [aer,ajU,alb]at hp
  have hzz:(Value.agg (slotL bf (⟨0,aj.zero32,mW⟩:Tab.Slot (Rep.dF))).toArray).cells.size=38:=by
   show (slotL bf (⟨0,aj.zero32,mW⟩:Tab.Slot (Rep.dF))).toArray.size=38
   rw [aaI,iT bf _ aN 5 rfl]
  rw [hzz]
  rcases hp with rfl|rfl|rfl
  ·exact ⟨0,rfl,by show 0+1≤38;omega⟩
  ·refine ⟨1,?_,?_⟩
   ·show some (1,32)=some (1,(aA k).toArray.size);rw [hbk]
   ·show 1+(aA k).toArray.size≤38;omega
  ·exact ⟨33,rfl,by show 33+5≤38;omega⟩) w).trans ?_
 rw [show (Value.agg (slotL bf (⟨0,aj.zero32,mW⟩:Tab.Slot (Rep.dF))).toArray).cells=(slotL bf (⟨0,aj.zero32,mW⟩:Tab.Slot (Rep.dF))).toArray from rfl,VW bf ⟨0,aj.zero32,mW⟩ k v aN hk rfl 5 rfl]
section
variable {w0 w:World}{F R:List aG}{p B:Nat}{sv:Value}{k:aj.Bs}{m:aj.Bs→Option (Rep.dF)}
set_option maxRecDepth 20000 in
theorem afA (hB:B≤134217000) (hk:k.length=32) (v:Rep.dF) (h:Sat w0 w (dY p m B::F)) :
  Calls Tryz.prog 206 #[ptr p,.agg (aA k).toArray,.agg (bf v).toArray] w (aO fun _ w'=>Sat w0 w' (dY p (Tab.put m k v) (B+1)::F)):=by
 obtain ⟨t,sv,⟨ok,is,hb⟩,hR⟩:=dY.open h
 obtain ⟨d,he⟩:=ok.ends k
 have hsz:t.slots.length≤1073741824:=by have:=ok.size;omega
 have Hlen:=uQ (show ∀ x∈t.slots,(slotL bf x).length=38 from fun x hx=>iT bf x (ok.good.key x hx) 5 (rG _))
 obtain ⟨la,lc,rfl⟩:=iD Hlen.out (Sat.rd (hR.pick aZ)) aN
 have hrl:0<(t.slots.flatMap (slotL bf)).length:=by rw [iE Hlen.out];have:=ok.good.jG;omega
 obtain ⟨bk,rfl⟩:=Dw (hR.pick aZ) hrl
 have Hk:=uQ hk;have bU:=uQ ok;have iK:=uQ is;have Hb:=uQ hb;have He:=uQ he;have gq:=uQ hsz;have HB:=uQ hB
 have iV:=uQ ok.good.jG
 have sW:=uQ (show (aA k).length=32 by rw [aV,hk])
 clear h hk ok is hb he hsz hB hrl
 go_enter Tryz.func206,Tryz.ntmps206
 go_wp2_with (with_reducible apply eG)
 refine ⟨eH hR ak ak ?_⟩
 intro b4 w4 hS4
 go_wp2_with (with_reducible apply eG)
 refine ⟨eH hS4 ak ak ?_⟩
 intro b5 w5 hS5
 have hA:Sat w0 w5 (fU p 314 (.slice (some ⟨bk,0,none⟩) t.slots.length lc) t.n t.gone::aC 355 38 (.slice (some ⟨bk,0,none⟩) t.slots.length lc) (t.slots.flatMap (slotL bf))::pt b4 (.cells (aA k).toArray 31 (0,0))::pt b5 (.cells (bf v).toArray 248 (0,0))::F):=hS5.sb
 clear hR hS4 hS5
 go_wp2_with fail
 refine (MH iV.out hA).mono ?_
 rintro ee w7 ⟨v',rfl,rfl,rfl⟩
 go_wp2_with ((with_reducible refine bD ⟨?_⟩);refine gI hA ah (aW (aW (aT (A:=pt b4 (.cells (aA k).toArray 31 (0,0)))))) Tryz.underlying31 rfl (by rw [aaI,sW.out];kernel_rfl) ?_)
 have hf:=EU bU.out.good gq.out Hk.out He.out hA
 clear hA
 refine hf.mono ?_
 rintro ee w8 ⟨v',rfl,x,hx,rfl,iR⟩
 clear hf
 have hlt:=Tab.lX (k:=k) (d:=d) iV.out
 by_cases h1:x.st=1
 ·have hd:decide (x.st=1)=true:=aiu h1
  have hxm:=abA hx
  have pW:=uQ (Gz (f:=slotL bf) (k:=38) (o:=33) (x':=⟨x.st,x.key,v⟩) (vs:=bf v) Hlen.out hx (XC bf x v (bU.out.good.key x hxm) rfl) (by show 33+5≤38;decide))
  have l7:=uQ (Tab.VU bU.out He.out hx h1 v)
  have qF:=uQ (Tab.Fz iK.out (Tab.MN bU.out.good He.out hx h1 v).2 t.n t.gone)
  have hrl:(t.slots.flatMap (slotL bf)).length=38 * t.slots.length:=iE Hlen.out
  clear hx hxm h1
  generalize Tab.pos k t.slots.length d=P0 at *
  have c0:(0:Int)≤(P0:Int):=oQ
  have c1:(P0:Int)<(t.slots.length:Int):=oQ
  go_wp2_with fail
  have hSd:=iR.drew
  clear iR
  refine dH [6,7,8] (fun w'=>w'.cell? ⟨p,0,none⟩=some (.slice (some ⟨bk,0,none⟩) t.slots.length lc)∧w'.rangeAt b5 0 (bf v)) au ?_
  have hG:World.cell? _ ⟨p,0,none⟩=some (.slice (some ⟨bk,0,none⟩) t.slots.length lc)∧World.rangeAt _ b5 0 (bf v):=⟨hSd.cellP aY 0 rfl,oN (hSd.pk (A:=pt b5 (.cells (bf v).toArray 248 (0,0))))⟩
  refine rP 0 ?_ (y:=aX)
  refine rP 1 ?_ (y:=dZ)
  refine rP 2 ?_ (y:=cO)
  refine rt 3 (h:=?_)
  refine rP 4 ?_ (y:=aX)
  refine eP 5 ak au bK (ig (b:=b5) (o:=0) (bf v) ah Tryz.underlying248 rfl au (fun w hw=>hw.2)) aQ gQ ?_
  refine rP 6 ?_ (y:=gX)
  refine rP 7 ?_ (y:=cO)
  clear hG
  refine bV 8 ak au (fun K hK=>?_)
  refine xW (vs:=bf v) (P0 * 38+33) hSd ak ak rfl (jh bZ) (by rw [hrl];show P0 * 38+33+5≤_;omega) au ah ?_
  intro w12 iP
  refine hK _ _ (.inl rfl) ?_
  clear hK hSd
  refine dD au ?_
  try simp only [iO]
  try go_frame
  rw [← pW.out]at iP
  go_wp2_with fail
  go_end0
  exact ⟨_,rfl,dY.shut (sv:= .slice (some ⟨bk,0,none⟩) t.slots.length lc) l7.out qF.out (Nat.le_succ_of_le Hb.out) (iP.sb)⟩
 have hd:decide (x.st=1)=false:=aex h1
 have hb4:=Hb.out
 have hB4:=HB.out
 have CS:=gq.out
 obtain ⟨hA1,hA2,hA3,BU,BP,BQ,BR,BX,BZ⟩:=Yn t.n t.gone t.slots.length oQ CS
 have Hx:=uQ hx;have H1:=uQ h1
 clear hx h1 hb4 hB4 CS
 go_wp2_with fail
 have hSd:=iR.drew
 clear iR
 have e0:World.cell? _ ⟨p,0,none⟩=some (.slice (some ⟨bk,0,none⟩) t.slots.length lc):=hSd.cellP aY 0 rfl
 have e1:World.cell? _ ⟨p,1,none⟩=some (.int .i64 t.n):=hSd.cellP aY 1 rfl
 have e2:World.cell? _ ⟨p,2,none⟩=some (.int .i64 t.gone):=hSd.cellP aY 2 rfl
 go_region
 have hcmp:3 * t.slots.length<4 * (t.n+t.gone+1)∨4 * (t.n+t.gone+1)≤3 * t.slots.length:=oQ
 rcases hcmp with hcmp|hcmp
 focus
  have hci:(3:Int) * (t.slots.length:Int)<4 * ((t.n:Int)+(t.gone:Int)+1):=oQ
  have hrn:=af7 (N:=t.n+1) bU.out (aj8 _) (by have:=Hb.out;have:=HB.out;omega) gq.out hSd
  rw [show (((t.n+1:Nat)):Int)=(t.n:Int)+1 by omega]at hrn
  clear hSd e0 e2
  go_wp2_with fail
  refine hrn.mono ?_
  rintro ee w9 ⟨v',rfl,s',sv',qw,iG⟩
  clear hrn e1 hci hcmp
  have hok1:=qw.ok
  have yu:=qw.is iK.out t.n 0
  have yw:4 * ((⟨s',t.n,0⟩:Tab.Tb (Rep.dF)).n+(⟨s',t.n,0⟩:Tab.Tb (Rep.dF)).gone+1)≤3 * (⟨s',t.n,0⟩:Tab.Tb (Rep.dF)).slots.length:=by have:=qw.lo;simp only;omega
  have hb1:(⟨s',t.n,0⟩:Tab.Tb (Rep.dF)).n+(⟨s',t.n,0⟩:Tab.Tb (Rep.dF)).gone≤B:=by have:=Hb.out;simp only;omega
  have dw:Sat w0 w9 (fU p 314 sv' (⟨s',t.n,0⟩:Tab.Tb (Rep.dF)).n (⟨s',t.n,0⟩:Tab.Tb (Rep.dF)).gone::aC 355 38 sv' ((⟨s',t.n,0⟩:Tab.Tb (Rep.dF)).slots.flatMap (slotL bf))::pt b4 (.cells (aA k).toArray 31 (0,0))::pt b5 (.cells (bf v).toArray 248 (0,0))::F):=iG
  clear iG qw hA1 hA2 hA3 BU BP BQ BR BX BZ
  generalize (⟨s',t.n,0⟩:Tab.Tb (Rep.dF))=t1 at hok1 yu yw hb1 dw
  have tu:=uQ (show ∀ x∈t1.slots,(slotL bf x).length=38 from fun x hx=>iT bf x (hok1.good.key x hx) 5 (rG _))
  obtain ⟨Ls,uy,rfl⟩:=iD tu.out (Sat.rd (dw.pick aZ)) aN
  have lG:=uQ hok1;have tq:=uQ yu;have xC:=uQ yw;have Hb1:=uQ hb1
  obtain ⟨d1,he1⟩:=hok1.ends k
  have lZ:=uQ he1
  have hno:m k=none:=by
   obtain ⟨_,q2⟩:=iK.out.some bU.out He.out Hx.out
   exact q2 H1.out
  have hsz1:t1.slots.length≤1073741824:=by have:=hok1.size;have:=HB.out;omega
  clear hok1 yu yw hb1 he1
  go_wp2_with ((with_reducible refine bD ⟨?_⟩);refine gI dw ah (aW (aW (aT (A:=pt b4 (.cells (aA k).toArray 31 (0,0)))))) Tryz.underlying31 rfl (by rw [aaI,sW.out];kernel_rfl) ?_)
  have hf:=EU lG.out.good hsz1 Hk.out lZ.out dw
  clear dw hsz1
  refine hf.mono ?_
  rintro ee w8b ⟨v',rfl,x1,hx1,rfl,hT⟩
  have qg:=uQ hx1
  have sS:=uQ (show x1.st≠1 from fun h=>by
   have:=(tq.out.some lG.out lZ.out hx1).1 h
   rw [hno]at this;cases this)
  clear hf hx1 hno Hx H1 He bU iK Hlen iV Hb gq hlt hd
  go_wp2_with fail
 rotate_left
 focus
  have hci:¬ (3:Int) * (t.slots.length:Int)<4 * ((t.n:Int)+(t.gone:Int)+1):=oQ
  have xC:=uQ hcmp
  clear e0 e1 e2 hcmp
  go_wp2_with fail
  clear hci hA1 hA2 hA3 BU BP BQ BR BX BZ hlt hd iV gq
  obtain ⟨t1,rfl⟩:∃ y,y=t:=⟨t,rfl⟩
  obtain ⟨x1,rfl⟩:∃ y,y=x:=⟨x,rfl⟩
  obtain ⟨d1,rfl⟩:∃ y,y=d:=⟨d,rfl⟩
  obtain ⟨Ls,CG⟩:∃ y:Option Addr,y=some ⟨bk,0,none⟩:=⟨_,rfl⟩
  obtain ⟨uy,rfl⟩:∃ y,y=lc:=⟨lc,rfl⟩
  rw [← CG]at hSd
  have hT:=hSd
  have lG:=uQ bU.out;have tq:=uQ iK.out;have Hb1:=uQ Hb.out;have lZ:=uQ He.out;have qg:=uQ Hx.out;have sS:=uQ H1.out;have tu:=uQ Hlen.out
  clear hSd bU iK Hb He Hx H1 Hlen CG
 all_goals
  have hrl:(t1.slots.flatMap (slotL bf)).length=38 * t1.slots.length:=iE tu.out
  obtain ⟨bk1,rfl⟩:=Dw (hT.pick aZ) (by rw [hrl];have:=lG.out.good.jG;omega)
  have pW:=uQ (Ac (f:=slotL bf) (k:=38) (i:=Tab.pos k t1.slots.length d1) (x:=⟨1,k,v⟩) tu.out (iT bf _ Hk.out 5 rfl) (Tab.lX lG.out.good.jG))
  have l7:=uQ (Tab.VR lG.out xC.out lZ.out qg.out sS.out Hk.out v)
  have qF:=uQ (Tab.Fz tq.out (Tab.Gj lG.out.good lZ.out qg.out sS.out Hk.out v).2 (t1.n+1) t1.gone)
  have hlt1:=Tab.lX (k:=k) (d:=d1) lG.out.good.jG
  have hls:=iT bf (⟨1,k,v⟩:Tab.Slot (Rep.dF)) Hk.out 5 rfl
  have hwn:IntKind.i64.wrap ((t1.n:Int)+1)=(t1.n:Int)+1:=acI _ (by have:=Hb1.out;have:=HB.out;omega)
  clear qg sS lZ lG tq xC
  generalize Tab.pos k t1.slots.length d1=P1 at *
  have c0:(0:Int)≤(P1:Int):=oQ
  have c1:(P1:Int)<(t1.slots.length:Int):=oQ
  have hSd:=hT.drew
  clear hT
  refine dH [8,9] (fun w'=>w'.cell? ⟨p,0,none⟩=some (.slice (some ⟨bk1,0,none⟩) t1.slots.length uy)∧w'.rangeAt b4 0 (aA k)∧w'.rangeAt b5 0 (bf v)) au ?_
  have hG:World.cell? _ ⟨p,0,none⟩=some (.slice (some ⟨bk1,0,none⟩) t1.slots.length uy)∧World.rangeAt _ b4 0 (aA k)∧World.rangeAt _ b5 0 (bf v):=⟨hSd.cellP aY 0 rfl,oN (hSd.pk (A:=pt b4 (.cells (aA k).toArray 31 (0,0)))),oN (hSd.pk (A:=pt b5 (.cells (bf v).toArray 248 (0,0))))⟩
  refine rP 0 ?_ (y:=aX)
  refine rP 1 ?_ (y:=dZ)
  refine rP 2 ?_ (y:=cO)
  refine rt 3 (h:=?_)
  refine rP 4 ?_ (y:=aX)
  refine eP 5 ak au bK (ig (b:=b4) (o:=0) (aA k) ah Tryz.underlying31 rfl (by rw [sW.out];kernel_rfl) (fun w hw=>hw.2.1)) aQ gQ ?_
  refine eP 6 ak au bK (ig (b:=b5) (o:=0) (bf v) ah Tryz.underlying248 rfl au (fun w hw=>hw.2.2)) aQ gQ ?_
  refine rP 7 ?_ (y:=(Aw ak ak ak (fun w=>ag1 k Hk.out v w)))
  refine rP 8 ?_ (y:=gX)
  clear hG
  refine bV 9 ak au (fun K hK=>?_)
  refine xW (vs:=slotL bf ⟨1,k,v⟩) (P1 * 38) hSd ak ak rfl (jh bZ) (by rw [hrl,hls];omega) (by rw [hls];kernel_rfl) (lQ bf _ ah) ?_
  intro w12 iP
  refine hK _ _ (.inl rfl) ?_
  clear hK hSd
  refine dD au ?_
  try simp only [iO]
  try go_frame
  rw [← pW.out]at iP
  go_wp2_with (first
   |((with_reducible refine bD ⟨?_⟩);refine dV iP ah aY bF ak au ?_)
   |((with_reducible refine bY ⟨?_⟩);refine eY aQ ah ak pQ eF bF au ah ?_;intro wS hS))
  go_end0
  exact ⟨_,rfl,dY.shut (sv:= .slice (some ⟨bk1,0,none⟩) t1.slots.length uy) l7.out qF.out (by have:=Hb1.out;simp only;omega) (hS.sb)⟩
end
set_option maxRecDepth 20000 in
theorem aaR (x y:Tab.Slot (Rep.dF)) (hx:x.key.length=32) (hy:y.key.length=32) (W:World) :
  Calls Tryz.prog 283 #[.agg (slotL bf x).toArray,.agg (slotL bf y).toArray] W fun e w'=>e = .returned (.int .i64 (Lib.compareBytes x.key y.key))∧∃ q os',w'=Sort.grow (W.drewN q) os':=by
 have h0:=Sat.start W
 have h1:=h0.alloc (.cells (slotL bf x).toArray 355)
 have h2:=(h1.alloc (.cells (slotL bf y).toArray 355)).drew
 have hsz:(W.alloc (.cells (slotL bf x).toArray 355)).heap.size=W.heap.size+1:=Array.size_push ..
 rw [hsz]at h2
 have r1:bg 1 (.slice (some ⟨W.heap.size,1,none⟩) 32 32) (aA x.key) ((W.alloc (.cells (slotL bf x).toArray 355)).alloc (.cells (slotL bf y).toArray 355)).drew:=
  ⟨_,_,_,rfl,by rw [aV,hx],fun j z hj=>⟨_,rfl,by rw [tK];exact qZ (h2.pick aZ) j z hj⟩⟩
 have r2:bg 1 (.slice (some ⟨W.heap.size+1,1,none⟩) 32 32) (aA y.key) ((W.alloc (.cells (slotL bf x).toArray 355)).alloc (.cells (slotL bf y).toArray 355)).drew:=
  ⟨_,_,_,rfl,by rw [aV,hy],fun j z hj=>⟨_,rfl,by rw [tK];exact qZ (h2.pick aT) j z hj⟩⟩
 have hb:=JU x.key y.key r1 r2
 clear h0 h1 h2 r1 r2 hsz
 generalize Lib.compareBytes x.key y.key=r at *
 go_enter Tryz.func283,Tryz.ntmps283
 go_wp2_with fail
 have hG:True:=trivial
 refine dH [] (fun w'=>True) au ?_
 refine rP 0 ?_ (y:=cO)
 refine rp 1 (hy:=(by (refine Or.inl ⟨by rfl,?_⟩;((intro wq;go_simp);first|done|exact wQ)))) (h:=?_)
 refine rP 2 ?_ (y:=cO)
 refine rp 3 (hy:=(by (refine Or.inl ⟨by rfl,?_⟩;((intro wq;go_simp);first|done|exact wQ)))) (h:=?_)
 refine bV 4 ak au (fun K hK=>?_)
 (refine gy au ak ak ?_)
 refine hb.mono ?_
 rintro e w' ⟨rfl,rfl⟩
 refine hK _ _ (.inr (.inr rfl)) ?_
 clear hK hb
 refine rP 5 ?_ (y:=fJ)
 refine dD au ?_
 clear hG
 go_wp2_with fail
 go_ret
 exact ⟨rfl,1,#[.cells (slotL bf x).toArray 355,.cells (slotL bf y).toArray 355],by rw [Sort.alloc_eq_grow,Sort.alloc_eq_grow,Sort.grow_grow,Sort.drew_grow];rfl⟩
open Go.Sort
abbrev oz:Type:={ x:Tab.Slot (Rep.dF) // x.key.length=32 }
instance:Inhabited oz:=⟨⟨⟨0,aj.zero32,⟨0,Seg.aU.zero,0⟩⟩,rfl⟩⟩
section
variable {w0 w:World}{F:List aG}{v:Value}
theorem ahC (l:List (Tab.Slot (Rep.dF))) (hk:∀ x∈l,x.key.length=32) (hn:l.length≤1073741824) (h:Sat w0 w (aC 355 38 v (l.flatMap (slotL bf))::F)) :
  Calls Tryz.prog 282 #[v,.func (.func 283) #[] #[]] w (aO fun _ w'=>∃ l':List (Tab.Slot (Rep.dF)),(l'.Perm l∧l'.Pairwise fun a b=>¬ b.key<a.key)∧Sat w0 w' (aC 355 38 v (l'.flatMap (slotL bf))::F)):=by
 have hlen:∀ x∈l,(slotL bf x).length=38:=fun x hx=>iT bf x (hk x hx) 5 (rG _)
 rcases h.jQ with ⟨rfl,hn',h'⟩|⟨g,n,cap,cs,rfl,hl,hn',hc,hcm,htk,hp⟩
 ·obtain rfl:l=[]:=by
   cases l with
   |nil=>rfl
   |cons x l=>rw [ai7]at hn';have:=aje List.length hn';rw [aal,hlen x (.head _)]at this;simp at this
  refine (AnyF.slices_SortFunc_none Tryz.sortA none 0 (.func (.func 283) #[] #[]) w).mono ?_
  rintro e w1 ⟨rfl,rfl⟩
  exact ⟨_,rfl,[],⟨.refl _,.nil⟩,h⟩
 ·rw [iE hlen,ajW]at hl
  obtain rfl:n=l.length:=(Nat.eq_of_mul_eq_mul_right aN hl).symm
  let d:Array oz:=(l.attach.map fun x=>(⟨x.1,hk x.1 x.2⟩:oz)).toArray
  have hd:d.toList.map (·.1)=l:=by
   show (l.attach.map fun x=>(⟨x.1,hk x.1 x.2⟩:oz)).map (·.1)=l
   rw [aj9]
   exact List.attach_map_subtype_val l
  have hds:d.size=l.length:=by rw [← hd,aaJ,adu]
  have hke:∀ x:oz,((fun x:oz=>slotL bf x.1) x).length=38:=fun x=>iT bf x.1 x.2 5 (rG _)
  have hfl:∀ d:Array oz,(flatK (fun x:oz=>slotL bf x.1) 38 d).toList=(d.toList.map (·.1)).flatMap (slotL bf):=fun d=>by
   rw [Rx hke aN,List.flatMap_map]
  have hH:HoldsK (fun x:oz=>slotL bf x.1) 38 w g 0 d:=TU hp.at (by rw [size_flatK,hds,hfl,hd];exact htk)
  refine (AnyQ.slices_SortFunc Tryz.sortA 38 Tryz.isAgg355 Tryz.sizeOf355 (fun x:oz=>slotL bf x.1) hke (fun x v hv=>ajE.1 (lQ bf x.1 (xI _)) v hv) (fun x y=>Lib.compareBytes x.1.key y.1.key) (Tab.XL fun x:oz=>x.1.key) 283 #[] g 0 cap d w (fun args w=>by kernel_rfl) (fun m os dk _ x y=>aaR x.1 y.1 x.2 y.2 _) hH hp.lt oQ |> fun q=>(by rw [hds]at q;exact q:Calls Tryz.prog 282 #[.slice (some ⟨g,0,none⟩) l.length cap,.func (.func 283) #[] #[]] w _)).mono ?_
  rintro e w1 ⟨rfl,d',n',os,hpm,hst,rfl⟩
  obtain ⟨q1,q2⟩:=Tab.XE (key:=fun x:oz=>x.1.key) (by rw [hds];exact hpm) (by rw [hds];exact hst)
  have hl':d'.toList.length=l.length:=by rw [q1.length_eq,adu,hds]
  have hS:=Xl (n:=n') (os:=os) hp (flatK (fun x:oz=>slotL bf x.1) 38 d')
  have hsz':(flatK (fun x:oz=>slotL bf x.1) 38 d').size=l.length * 38:=by rw [size_flatK,← adu,hl']
  refine ⟨_,rfl,d'.toList.map (·.1),⟨by rw [← hd];exact q1.map _,aki.2 q2⟩,?_⟩
  refine hS.kC ?_ hn' (by simpa [Sort.putCells] using hc) hcm ?_
  ·rw [← hfl,adu,hsz']
  ·rw [← hfl,← hsz']
   refine XR _ ?_
   have:l.length * 38≤cap * 38:=ajT _ hn'
   omega
end
end Go.Proofs.YtiglchkhikciiaaGreatDoor
namespace Go.Proofs.YtiglchkhikciiaaGreatDoor
open Go Go.Sl Go.ay Go.MapKept Go.RowKit
section
variable {w0 w:World}{F R:List aG}{p B:Nat}{sv v:Value}{k:aj.Bs}{m:aj.Bs→Option (Rep.dF)}{t:Tab.Tb (Rep.dF)}
set_option maxRecDepth 20000 in
theorem agb (hB:B≤13000000) (h:Sat w0 w (dY p m B::F)) :
  Calls Tryz.prog 244 #[ptr p] w (aO fun v w'=>∃ l:List (Tab.Slot (Rep.dF)),(Tab.Lists m (l.map fun x=>(x.key,x.val))∧(∀ x∈l,x.st=1∧x.key.length=32)∧l.length≤B)∧Sat w0 w' (aC 355 38 v (l.flatMap (slotL bf))::dY p m B::F)):=by
 obtain ⟨t,sv,⟨ok,is,hb⟩,hR⟩:=dY.open h
 have hsz:t.slots.length≤56000000:=by have:=ok.size;omega
 have Hlen:=uQ (show ∀ x∈t.slots,(slotL bf x).length=38 from fun x hx=>iT bf x (ok.good.key x hx) 5 (rG _))
 obtain ⟨la,lc,rfl⟩:=iD Hlen.out (Sat.rd (hR.pick aZ)) aN
 have bU:=uQ ok;have iK:=uQ is;have Hb:=uQ hb;have gq:=uQ hsz;have iV:=uQ ok.good.jG
 clear h ok is hb hB
 have hS0:Sat w0 w (aC 355 38 (.slice none 0 0) []::fU p 314 (.slice la t.slots.length lc) t.n t.gone::aC 355 38 (.slice la t.slots.length lc) (t.slots.flatMap (slotL bf))::F):=Sat.fD.2 hR
 clear hR
 go_enter Tryz.func244,Tryz.ntmps244
 go_wp2_with fail
 refine (MH iV.out (hS0.pick aZ)).mono ?_
 rintro ee w7 ⟨v,rfl,rfl,rfl⟩
 go_wp2_with ((with_reducible refine bD ⟨?_⟩);refine dV hS0 ah aY bF ak au ?_)
 go_loopg [3,14] t.slots.length (fun g oq iq wr=>∃ (i:Nat),g=t.slots.length - i∧i≤t.slots.length∧iq = .int .i64 i ∧
  Sat w0 wr (aC 355 38 oq (((t.slots.take i).filter fun x=>decide (x.st=1)).flatMap (slotL bf))::fU p 314 (.slice la t.slots.length lc) t.n t.gone::aC 355 38 (.slice la t.slots.length lc) (t.slots.flatMap (slotL bf))::F))
 case atStart=>exact ⟨0,rfl,afm _,rfl,hS0⟩
 case round=>
  obtain ⟨i,rfl,hi,rfl,hS⟩:=hrel
  clear hS0
  by_cases hlt:i<t.slots.length
  rotate_left
  ·obtain rfl:i=t.slots.length:=by omega
   have c1:¬ (t.slots.length:Int)<(t.slots.length:Int):=oQ
   rw [aiv]at hS
   have hfk:∀ x∈t.slots.filter fun x=>decide (x.st=1),x.key.length=32:=fun x hx=>bU.out.good.key x (aji.1 hx).1
   have hs:=ahC (t.slots.filter fun x=>decide (x.st=1)) hfk (adr (akD _ _) (adr hsz aN)) hS
   clear hlt hi hS hfk
   go_wp2_with fail
   refine hs.mono ?_
   rintro ee w8 ⟨v,rfl,l,⟨h1,h2⟩,iR⟩
   clear hs
   have Hl:=uQ (Tab.LK bU.out.good iK.out h1 h2)
   have Hll:=uQ (show l.length≤B from by
    rw [h1.length_eq,← List.countP_eq_length_filter]
    have e:t.slots.countP (fun x=>decide (x.st=1))=Tab.jB t.slots:=by
     unfold Tab.jB
     refine List.countP_congr fun x _=>?_
     simp
    have:=bU.out.n;have:=Hb.out;omega)
   clear h1 h2
   go_wp2_with fail
   go_ret
   exact ⟨_,rfl,l,⟨Hl.out.1,Hl.out.2,Hll.out⟩,Sat.VN (dY.shut bU.out iK.out Hb.out (iR.sb))⟩
  have c1:(i:Int)<(t.slots.length:Int):=oQ
  have hwi:=vU (i:=i)
  obtain ⟨x,hx⟩:∃ x,t.slots[i]?=some x:=⟨_,aak hlt⟩
  have hxm:=abA hx
  have hst:=bU.out.good.st x hxm
  have Hxk:=uQ (bU.out.good.key x hxm)
  obtain ⟨bk,off,c',hsv,hcell⟩:=iC Hlen.out (Sat.rd (hS.pick fG)) hx aN
  cases hsv
  have fP:=Hlen.out x hxm
  have htk:(t.slots.take (i+1)).filter (fun x=>decide (x.st=1))=(t.slots.take i).filter (fun x=>decide (x.st=1))++[x].filter fun x=>decide (x.st=1):=by
   rw [ajL,hx,ajY,List.filter_append]
  have fB:=uQ htk
  have bT:=uQ hlt
  have CJ:(((t.slots.take i).filter fun x=>decide (x.st=1)).flatMap (slotL bf)).length≤2147483648:=by
   rw [iE fun y hy=>Hlen.out y (ajm (aji.1 hy).1)]
   have h1:=akD (fun x=>decide (x.st=1)) (t.slots.take i)
   have h2:=akX i t.slots
   have h3:=gq.out
   omega
  clear hx hxm hlt hi htk
  go_wp2_with (first
   |((with_reducible refine bD ⟨?_⟩);refine gU (b:=bk) (o:=off+i * 38) (slotL bf x) ah hcell Tryz.underlying355 rfl (by rw [fP];kernel_rfl) ?_)
   |(with_reducible apply eU))
  refine ⟨dU yX hS rfl ?_⟩
  intro b7 w7 hS7
  go_wp2_with (first|((with_reducible refine bY ⟨?_⟩);refine fE (slotL bf x).toArray hS7 ah ah (by rw [aaI,fP];rfl) bZ (by rw [aaI,fP];kernel_rfl) (by rw [adM];exact lQ bf x (xI _)) ?_;intro w10 dw)|(with_reducible apply bD))
  refine ⟨?_⟩
  clear hS hS7 hcell
  have f0:w10.cell? ⟨b7,0,none⟩=some (.int .i64 x.st):=dw.cellP aT 0 (by rw [abL];rfl)
  by_cases h1:x.st=1
  rotate_left
  ·have hst1:((x.st:Int)==1)=false:=by rw [adW];omega
   have e9:(t.slots.take (i+1)).filter (fun x=>decide (x.st=1))=(t.slots.take i).filter (fun x=>decide (x.st=1)):=by
    rw [fB.out,alc (by rw [aex h1];decide),List.filter_nil,afo]
   have E9:=uQ e9
   clear h1 e9
   go_wp2_with fail
   go_roundg (t.slots.length - (i+1))
   case measure=>have:=bT.out;omega
   case rel=>exact ⟨i+1,rfl,bT.out,by first|rfl|go_num,by rw [E9.out];exact dw.sb⟩
  ·have hst1:((x.st:Int)==1)=true:=by rw [h1];rfl
   have e9:((t.slots.take (i+1)).filter (fun x=>decide (x.st=1))).flatMap (slotL bf)=((t.slots.take i).filter (fun x=>decide (x.st=1))).flatMap (slotL bf)++slotL bf x:=by
    rw [fB.out,ald (by rw [aiu h1]),List.filter_nil,ajj,ai7,aks,afo]
   have E9:=uQ e9
   clear h1 e9
   go_wp2_with (first
    |((with_reducible refine bD ⟨?_⟩);refine gI dw ah aY Tryz.underlying355 rfl (by rw [aaI,fP];kernel_rfl) ?_)
    |(with_reducible apply ny))
   refine ⟨nH (e:=355) (sz:=38) (dS:=80) au dw ah (cs:=(slotL bf x).toArray) rfl (by rw [aaI,fP]) aN ?_⟩
   intro bN wN hN
   go_wp2_with (with_reducible apply lg)
   refine ⟨nG 355 38 80 au hN ah ah aY aT (by rw [aaI,fP]) (acy 1) (by rw [adM];exact lQ bf x (xI _)) CJ (by rw [aaI,fP];decide) aN (by rw [adM]) ?_⟩
   intro bA nA cA wA hA
   go_wp2_with fail
   rw [← E9.out]at hA
   go_roundg (t.slots.length - (i+1))
   case measure=>have:=bT.out;omega
   case rel=>exact ⟨i+1,rfl,bT.out,by first|rfl|go_num,hA.sb⟩
end
end Go.Proofs.YtiglchkhikciiaaGreatDoor
namespace Go
open Go.Sl
variable {P:Program}{ops:Array Oper}{Q:Exit→Act→World→Prop}{K:Act→World→Prop}{l:Option Nat}{n:Nat}
abbrev rf (l:Option Nat):Fence:={ Fence.wide with round:=l }
abbrev calm (K:Act→World→Prop):Exit→Act→World→Prop:=Exit.then K fun _ _ _=>False
theorem JY:¬ LetsOut (calm K):=fun ⟨_,_,h⟩=>h
theorem agj {row:String}{args:Array Value}{w:World}{R:Value→World→Prop} (h:Rows P row args w R):RowsIn (rf l) n P row args w R:=fun c cs _=>by
 obtain ⟨v,w',r,s⟩:=h c cs
 exact ⟨v,w',r,stepsIn_wide.2 s⟩
theorem Vz {o:Oper}{a:Act}{w:World}{N N':Act→World→Prop} (ho:∀ c,o.op ≠ .defer c) (hN:∀ a w,N a w→N' a w) (h:o.wp P a w N (calm K)):o.wpIn (rf l) n P a w N' Q:=by
 refine ⟨fun _ _=>trivial,?_⟩
 rw [Oper.semAt_eq _ _ _ ho]
 unfold Oper.wp at h
 generalize (execOp a.eval o).run P w=r at h ⊢
 cases r with
 |ok x w'=>
  cases x with
  |value v=>exact hN _ _ h
  |skip=>exact hN _ _ h
  |defer d=>exact hN _ _ h
  |enter f args=>
   refine ⟨(fun hd=>by cases hd),?_⟩
   refine CallsIn.mono (callsIn_wide.2 h) fun e w'' he=>?_
   cases e with
   |returned v=>exact hN _ _ he
   |panicked c=>exact False.elim he
   |outgrown=>exact (JY he).elim
  |row row args=>exact ⟨(fun hd=>by cases hd),(agj h).mono fun v w'' he=>hN _ _ he⟩
  |round l' f tmps assign body=>exact h.elim
  |_=>exact h.elim
 |halt x w'=>
  cases x with
  |panic v=>exact False.elim h
  |_=>exact h.elim
theorem LH {yK:List Oper} (hK:∀ a w,K a w→wpListIn (rf l) n P ops Q yK a w):∀ (rest:List Oper) (a:Act) (w:World),(∀ o∈rest,∀ c,o.op ≠ .defer c)→wpList P ops (calm K) rest a w→wpListIn (rf l) n P ops Q (rest++yK) a w
 |[],a,w,_,h=>hK _ _ h
 |o::rest,a,w,hd,h=>by
  have ih:=LH (yK:=yK) hK rest
  show if Region.wanted o (yielded ops a.tmps)=true then o.wpIn (rf l) n P a w (wpListIn (rf l) n P ops Q (rest++yK)) Q else (∀ f,o.about P w a.eval=some f→(rf l).fn f)∧wpListIn (rf l) n P ops Q (rest++yK) (a.put o.dst undef) w
  have h':if Region.wanted o (yielded ops a.tmps)=true then o.wp P a w (wpList P ops (calm K) rest) (calm K)∨(o.asks P a w∧LetsOut (calm K)) else wpList P ops (calm K) rest (a.put o.dst undef) w:=h
  split at h'
  ·rename_i hw
   rw [ac3 hw]
   rcases h' with h'|h'
   ·exact Vz (hd o (.head _)) (fun a w h=>ih a w (fun o ho=>hd o (.tail _ ho)) h) h'
   ·exact (JY h'.2).elim
  ·rename_i hw
   rw [abw hw]
   exact ⟨fun _ _=>trivial,ih _ _ (fun o ho=>hd o (.tail _ ho)) h'⟩
abbrev yE (ops:Array Oper):Bool:=ops.toList.all fun o=>match o.op with | .defer _=>false|_=>true
theorem Md (hd:yE ops=true):∀ o∈ops.toList,∀ c,o.op ≠ .defer c:=fun o ho c e=>by
 have:=(ajE.1 hd) o ho
 rw [e]at this;cases this
theorem UK {rest:List Oper}{a:Act}{w:World} (hd:∀ o∈rest,∀ c,o.op ≠ .defer c) (h:wpList P ops (calm (Q .normal)) rest a w):wpListIn (rf l) n P ops Q rest a w:=by
 have:=LH (l:=l) (n:=n) (yK:=[]) (Q:=Q) (fun _ _ h=>h) rest a w hd h
 rw [afo]at this
 exact this
theorem af0 {id:Nat}{a:Act}{w:World} (hd:yE ops=true) (h:wpList P ops (calm (Q .normal)) ops.toList a w):(Code.region id ops false).wpIn (rf l) n P Q a w:=
 wpIn_region_list (UK (Md hd) h)
theorem Ep (hd:∀ o∈ops.toList,∀ c,o.op ≠ .defer c):∀ (k:Nat) (ls:Array Bool) (a:Act) (w:World),wpAny P .any ops (calm (Q .normal)) k ls a w→wpAnyIn (rf l) n P .any ops Q k ls a w
 |0,_,_,_,h=>h
 |k+1,ls,a,w,h=>by
  refine ⟨h.1,fun i hi=>?_⟩
  have h':=h.2 i hi
  unfold wpOp at h'
  unfold wpOpIn
  split at h'
  ·rename_i he;simp only [he];exact Ep hd k _ _ _ h'
  ·rename_i o he
   simp only [he]
   split at h'
   ·rename_i hw
    rw [ac3 hw]
    rcases h' with h'|h'
    ·refine Vz (hd o ?_) (fun a w h=>Ep hd k _ a w h) h'
     rw [← akg]at he
     exact abA he
    ·exact (JY h'.2).elim
   ·rename_i hw
    rw [abw hw]
    exact ⟨fun _ _=>trivial,Ep hd k _ _ _ h'⟩
theorem af2 {id:Nat}{a:Act}{w:World} (late:List Nat) (G:World→Prop) (hd:yE ops=true) (hm:P.follows .mixedOrders=true)
  (h:iI P ops (calm (Q .normal)) late G ops.size (Array.replicate ops.size false) a w.drew):(Code.region id ops true).wpIn (rf l) n P Q a w:=
 wpIn_region_any hm (Ep (Md hd) _ _ _ _ (Ov _ _ _ _ h))
theorem sG {id:Nat}{rest:List Oper}{a:Act}{w:World} (hd:yE rest.toArray=true) (h:∀ K:Act→World→Prop,(∀ a w,Q .normal a w→K a w)→wpList P rest.toArray (Exit.then K fun _ _ _=>False) rest a w):(Code.region id rest.toArray false).wpIn (rf l) n P Q a w:=
 af0 hd (by simpa using h _ fun _ _ h=>h)
theorem af4 {id:Nat}{a:Act}{w:World} (late:List Nat) (G:World→Prop) (hd:yE ops=true) (hm:P.follows .mixedOrders=true)
  (h:∀ K:Act→World→Prop,(∀ a w,Q .normal a w→K a w)→iI P ops (Exit.then K fun _ _ _=>False) late G ops.size (Array.replicate ops.size false) a w.drew):(Code.region id ops true).wpIn (rf l) n P Q a w:=
 af2 late G hd hm (h _ fun _ _ h=>h)
theorem af5 {id:Nat}{a:Act}{w:World} (pre:List Oper) (o:Oper) (post:List Oper) (he:ops.toList=pre++o::post) (hd:yE ops=true)
  (h:wpList P ops (calm fun a w=>Region.wanted o (yielded ops a.tmps)=true∧∃ (l':Nat) (f:FuncId) (tmps:Array Value) (assign body:Code),(execOp a.eval o).run P w = .ok (.round l' f tmps assign body) w ∧
   RoundIn Fence.wide 0 P l' f tmps assign body w (fun e w'=>∃ v,e = .returned v∧wpList P ops (calm (Q .normal)) post (a.put o.dst v) w')) pre a w) :
  (Code.region id ops false).wp P Q a w:=by
 refine wpIn_wide (n:=0).1 (wpIn_region_list ?_)
 have hd':=Md hd
 rw [he]at hd' ⊢
 refine LH (l:=none) (n:=0) (K:=_) (fun a w hk=>?_) pre a w (fun o ho=>hd' o (List.mem_append_left _ ho)) h
 obtain ⟨hw,l',f,tmps,assign,body,hx,hF,hc⟩:=hk
 show if Region.wanted o (yielded ops a.tmps)=true then o.wpIn (rf none) 0 P a w (wpListIn (rf none) 0 P ops Q post) Q else _
 rw [ac3 hw]
 refine ⟨fun _ _=>trivial,?_⟩
 rw [Oper.semAt_eq _ _ _ (hd' o (by simp)),hx]
 refine ⟨(fun hd=>by cases hd),hF,fun c cs hro=>?_⟩
 obtain ⟨e,w',⟨v,rfl,hv⟩,hs⟩:=hc c cs hro
 exact ⟨.returned v,w',UK (l:=none) (n:=0) (fun o ho=>hd' o (List.mem_append_right _ (.tail _ ho))) hv,hs⟩
theorem Wp {a:Act}{w:World}{id:Nat}{o0 o1 o2 o3 o4 o o6:Oper}{c:Code} (hd:yE #[o0,o1,o2,o3,o4,o,o6]=true)
  (h:∀ K:Act→World→Prop,(∀ a w,c.wp P Q a w→K a w)→wpList P #[o0,o1,o2,o3,o4,o,o6] (calm fun a w=>Region.wanted o (yielded #[o0,o1,o2,o3,o4,o,o6] a.tmps)=true∧∃ (l':Nat) (f:FuncId) (tmps:Array Value) (assign body:Code),(execOp a.eval o).run P w = .ok (.round l' f tmps assign body) w ∧
   RoundIn Fence.wide 0 P l' f tmps assign body w (fun e w'=>∃ v,e = .returned v∧wpList P #[o0,o1,o2,o3,o4,o,o6] (Exit.then K fun _ _ _=>False) [o6] (a.put o.dst v) w')) [o0,o1,o2,o3,o4] a w) :
  (Code.seq (Code.region id #[o0,o1,o2,o3,o4,o,o6] false) c).wp P Q a w:=
 wp_seq (af5 [o0,o1,o2,o3,o4] o [o6] rfl hd (h _ fun _ _ h=>h))
end Go
namespace Go
open Go.Sl Go.RowKit
section
variable {P:Program}{w0 w:World}{F R L:List aG}{b:Nat}{o o':Obj}{kv:List (Array Value)}{A A':List aG}
theorem Sl.Sat.putObj (o':Obj) (h:Sat w0 w (pt b o::R)):Sat w0 (w.putObj b o') (pt b o'::R):=
 h.turn rfl rfl rfl (by rw [World.putObj_size];exact acy _) (World.putObj_heap_same h.lt) fun i hi _=>World.putObj_heap_other hi
theorem Sl.Sat.zl (h:Sat w0 w (L++R)):Sat w0 w (R++L):=h.perm akB
def Iter (P:Program) (gf:Nat) (lb:Array Value) (kv:List (Array Value)) (w0:World) (A A':List aG):Prop:=
 ∀ (l:Nat) (R:List (Array Value)→List aG),
  (∀ pre x post W U,kv=pre++x::post→Sat w0 W (R pre++U)→∃ f tmps assign body,(Instr.yield l x).run P W = .ok (.round l f tmps assign body) W ∧
   RoundIn Fence.wide 0 P l f tmps assign body W (fun e W'=>e = .returned (.bool true)∧Sat w0 W' (R (pre++[x])++U))) →
  ∀ W,Sat w0 W (A++R [])→Calls P gf (#[.func (.yield l) #[] #[]]++lb) W (aO fun v W'=>Sat w0 W' (A'++R kv))
theorem Ym {g:Operand}{ps:Array Tmp}{assign body:Code}{Q:Exit→Act→World→Prop}{a:Act}{gf:Nat}{lb:Array Value}
  (hg:a.eval g = .func (.func gf) #[] lb) (eg:∀ args w,(callFunc gf args).run P w = .ok (.enter gf args) w)
  (hit:Iter P gf lb kv w0 A A') (hps:∀ x∈kv,x.size=ps.size) (R:List (Array Value)→List aG) (h:Sat w0 w (A++R []))
  (ade:∀ (l:Nat) (pre:List (Array Value)) (x:Array Value) (post:List (Array Value)) (U:List aG) (W:World),kv=pre++x::post→Sat w0 W (R pre++U) →
   ∀ T,T=(ps.zip x).foldl (fun t (p,v)=>t.setIfInBounds p v) a.tmps→assign.wpIn (rf (some l)) 0 P (Exit.then (fun a₁ w₁=>∃ M:List aG,Sat w0 w₁ (M++U)∧∀ U' w₂,Sat w0 w₂ (M++U')→body.wpIn (rf (some l)) 0 P (fun e _ w₃=>e = .normal∧Sat w0 w₃ (R (pre++[x])++U')) a₁ w₂) (fun _ _ _=>False))
    { tmps:=T,defers:=[] } W)
  (hdone:∀ D w',Sat w0 w' (A'++(R kv++[pt D (.deferred (some []))]))→Q .normal { a with defers:={ target:= .collected D,args:=#[] }::a.defers } w') :
  (Code.rangeFunc g ps assign body).wp P Q a w:=by
 refine (wpIn_wide (n:=0)).1 (wpIn_rangeFunc ?_)
 intro fn hfn
 obtain ⟨rec,hrec⟩:∃ rec:LoopState→Option Code→Loop,rec=fun st pe=>{ state:=st,pending:=pe,fn,tmps:=a.tmps,params:=ps,assign,body,defers:=w.heap.size }:=⟨_,rfl⟩
 obtain ⟨D,hD⟩:∃ D,D=w.heap.size:=⟨_,rfl⟩
 obtain ⟨l,hl⟩:∃ l,l=D+1:=⟨_,rfl⟩
 obtain ⟨W1,hW1⟩:∃ W1,W1=(w.alloc (.deferred (some []))).alloc (.loop (rec .ready none)):=⟨_,rfl⟩
 have hS1:Sat w0 W1 (pt l (.loop (rec .ready none))::pt D (.deferred (some []))::(A++R [])):=by
  have:=(h.alloc (.deferred (some []))).alloc (.loop (rec .ready none))
  rw [World.size_alloc,← hW1,← hD,← hl]at this
  exact this
 refine ⟨l,[{ target:= .collected D,args:=#[] }],W1,{ target:= .fn (.func gf) lb,args:=#[.func (.yield l) #[] #[]] },W1,gf,#[.func (.yield l) #[] #[]]++lb,W1,?_,?_,?_,?_,(fun h=>by cases h),?_⟩
 ·rw [hW1,hl,hD,hrec];exact run_enterLoop_outer _ _ _ _ _
 ·simp only [resolve,hg]
  simp [go_sem]
 ·intro f' _;trivial
 ·simp [invoke,go_sem,eg]
 ·refine callsIn_wide.2 ((hit l (fun pre=>R pre++[pt l (.loop (rec .ready none)),pt D (.deferred (some []))]) ?_ W1 ?_).mono ?_)
  ·intro pre x post W U hkv hS
   have hS':Sat w0 W (pt l (.loop (rec .ready none))::(R pre++(pt D (.deferred (some []))::U))):=by
    rw [adR]at hS
    exact hS.perm akM
   have hat:=hS'.at
   have hy:=run_yield (P:=P) (args:=x) hat (by rw [hrec];exact hps x (by rw [hkv];simp))
   refine ⟨_,_,_,_,hy,roundIn_of_wpIn trivial ?_⟩
   have hr:=ade l pre x post (pt D (.deferred (some []))::U++[pt l (.loop (rec .ready none))]) W hkv (hS'.perm (by
    rw [← ajN,← adR]
    exact (akB (l₁:=[pt l (.loop (rec .ready none))]) (l₂:=R pre++(pt D (.deferred (some []))::U))))) _ rfl
   have e1:((rec .ready none).params.zip x).foldl (fun tmps (t,a)=>tmps.setIfInBounds t a) (rec .ready none).tmps=(ps.zip x).foldl (fun t (p,v)=>t.setIfInBounds p v) a.tmps:=by rw [hrec]
   rw [e1]
   have e2:(rec .ready none).assign=assign:=by rw [hrec]
   have e3:(rec .ready none).body=body:=by rw [hrec]
   rw [e2,e3]
   refine wpIn_mono hr ?_
   intro e a1 w1 he
   cases e with
   |normal=>
    obtain ⟨M,hM,hb⟩:=he
    have hM':Sat w0 w1 (pt l (.loop (rec .ready none))::(M++(pt D (.deferred (some []))::U))):=hM.perm (by
     rw [← adR]
     exact akB (l₁:=M++(pt D (.deferred (some []))::U)) (l₂:=[pt l (.loop (rec .ready none))]))
    have hM2:=hM'.putObj (.loop { rec .ready none with state:= .busy })
    refine ⟨_,run_beginRound hM'.at (by rw [hrec]),?_⟩
    refine wpIn_mono (hb (pt D (.deferred (some []))::U++[pt l (.loop { rec .ready none with state:= .busy })]) _ (hM2.perm (by
     rw [← ajN,← adR]
     exact (akB (l₁:=[pt l (.loop { rec .ready none with state:= .busy })]) (l₂:=M++(pt D (.deferred (some []))::U)))))) ?_
    rintro e2 a2 w2 ⟨rfl,hS2⟩
    have hS3:Sat w0 w2 (pt l (.loop { rec .ready none with state:= .busy })::(R (pre++[x])++(pt D (.deferred (some []))::U))):=hS2.perm (by
     rw [← adR]
     exact akB (l₁:=R (pre++[x])++(pt D (.deferred (some []))::U)) (l₂:=[pt l (.loop { rec .ready none with state:= .busy })]))
    refine ⟨_,_,run_endRound none hS3.at,rfl,?_⟩
    have hS4:=hS3.putObj (.loop (rec .ready none))
    have e4:(Obj.loop { { rec .ready none with state:= .busy } with state:=if (none:Option Code).isNone then .ready else .done,pending:=none }) = .loop (rec .ready none):=by rw [hrec];rfl
    rw [e4]
    refine hS4.perm ?_
    rw [adR]
    exact akM.symm
   |exit id=>exact he.elim
   |goto t=>exact he.elim
   |ret=>exact he.elim
   |panic c=>exact he.elim
   |outgrown=>exact he.elim
  ·refine hS1.perm ?_
   rw [← adR]
   exact (akB (l₁:=[pt l (.loop (rec .ready none)),pt D (.deferred (some []))]) (l₂:=A++R []))
  ·rintro e W2 ⟨v,rfl,hS⟩
   have hS':Sat w0 W2 (pt l (.loop (rec .ready none))::(A'++(R kv++[pt D (.deferred (some []))]))):=hS.perm (by
    rw [← adR,← adR]
    exact akM)
   refine ⟨none,_,by have:=run_endLoop (P:=P) hS'.at (by rw [hrec];simp);rw [show (rec .ready none).pending=none by rw [hrec]]at this;exact this,?_⟩
   exact hdone D _ (hS'.putObj _).drop
theorem UG {fn:Func}{tmps:Array Value}{K:Ending→World→Prop}{D:Nat}{v:Value} (h:Sat w0 w (pt D (.deferred (some []))::F)) (hv:∀ w,(results fn tmps).run P w = .ok v w) (hK:∀ w',Sat w0 w' F→K (.returned v) w') :
  LeavesInM Fence.wide 0 P fn tmps K [{ target:= .collected D,args:=#[] }] .returning w:=
 ⟨by simp,.inl ⟨_,_,rfl,run_takeDeferred h.at,⟨_,hv _,hK _ ((h.putObj (.deferred none)).drop)⟩⟩⟩
def Kr (P:Program) (fn:Func) (K:Ending→World→Prop):Exit→Act→World→Prop
 |.normal,a,w | .ret,a,w=>LeavesInM Fence.wide 0 P fn a.tmps K a.defers .returning w
 |_,_,_=>False
theorem Qq {f:FuncId}{fn:Func}{c:Code}{args:Array Value}{K:Ending→World→Prop} (hf:P.funcs[f]?=some fn) (hb:fn.body=some c)
  (h:c.wp P (Kr P fn K) { tmps:=args++Array.replicate (fn.ntmps - args.size) undef,defers:=[] } w):Calls P f args w K:=
 (callsIn_wide (n:=0)).1 (callsIn_of_wp_marks hf hb trivial (wpIn_wide.2 (wp_mono h fun e a w he=>by
  cases e with
  |normal=>exact he
  |ret=>exact he
  |_=>exact he.elim)) rfl)
theorem abH {fn:Func}{a:Act}{K:Ending→World→Prop}{D:Nat}{v:Value} (ha:a.defers=[{ target:= .collected D,args:=#[] }]) (h:Sat w0 w (pt D (.deferred (some []))::F)) (hv:∀ w,(results fn a.tmps).run P w = .ok v w)
  (hK:∀ w',Sat w0 w' F→K (.returned v) w'):Kr P fn K .normal a w:=by
 show LeavesInM Fence.wide 0 P fn a.tmps K a.defers .returning w
 rw [ha]
 exact UG h hv hK
end
end Go
namespace Go.Proofs.YtiglchkhikciiaaGreatDoor
open Go Go.Sl Go.ay Go.MapKept Go.RowKit
def oD (x:aj.Bs×Rep.dF):Array Value:=#[.agg (aA x.1).toArray,.agg (bf x.2).toArray]
section
variable {w0 w:World}{F:List aG}{p B:Nat}{m:aj.Bs→Option (Rep.dF)}
theorem ZR (h:Sat w0 w F):Calls Tryz.prog 207 #[ptr p] w
  (aO fun v w'=>∃ b,v = .func (.func 243) #[] #[ptr b]∧Sat w0 w' (pt b (.cells #[ptr p] 245 (0,0))::F)):=by
 go_enter Tryz.func207,Tryz.ntmps207
 go_wp2_with (first|((with_reducible refine eG ⟨?_⟩);refine eH aQ ak ak ?_;intro bB wB hB)|(with_reducible apply eU))
 go_ret
 exact ⟨_,rfl,bB,rfl,hB⟩
set_option maxRecDepth 20000 in
theorem ZQ {b:Nat}{l:List (aj.Bs×Rep.dF)} (hB:B≤13000000) (hl:Tab.Lists m l) :
  Iter Tryz.prog 243 #[ptr b] (l.map oD) w0 [dY p m B,pt b (.cells #[ptr p] 245 (0,0))] [dY p m B,pt b (.cells #[ptr p] 245 (0,0))]:=by
 intro ly R hY W hW
 have Hl:=uQ hl
 have hW0:Sat w0 W (dY p m B::pt b (.cells #[ptr p] 245 (0,0))::R []):=hW
 clear hW hl
 show Calls Tryz.prog 243 #[.func (.yield ly) #[] #[],ptr b] W _
 go_enter Tryz.func243,Tryz.ntmps243
 have hr:=agb hB hW0
 go_wp2_with ((with_reducible refine bD ⟨?_⟩);refine dV hW0 ah aY bF ak au ?_)
 clear hW0
 refine hr.mono ?_
 rintro ee w1 ⟨sv,rfl,s,⟨hs1,hs2,hs3⟩,hS1⟩
 clear hr
 have e0:l=s.map fun x=>(x.key,x.val):=Hl.out.unique hs1
 clear hs1 Hl
 subst e0
 have kN:=uQ hs2;have Jv:=uQ hs3
 have Hlen:=uQ (show ∀ x∈s,(slotL bf x).length=38 from fun x hx=>iT bf x (hs2 x hx).2 5 (rG _))
 obtain ⟨la,lc,rfl⟩:=iD Hlen.out (Sat.rd hS1) aN
 have hsb:s.length≤13000000:=adr hs3 hB
 clear hs2 hs3 hB
 go_wp2_with fail
 go_loopg [8] s.length (fun g iq wr=>∃ (i:Nat),g=s.length - i∧i≤s.length∧iq = .int .i64 i ∧
  Sat w0 wr (aC 355 38 (.slice la s.length lc) (s.flatMap (slotL bf))::dY p m B::pt b (.cells #[ptr p] 245 (0,0))::R (((s.take i).map fun x=>(x.key,x.val)).map oD)))
 case atStart=>exact ⟨0,rfl,afm _,rfl,hS1⟩
 case round=>
  obtain ⟨i,rfl,hi,rfl,hS⟩:=hrel
  clear hS1
  by_cases hlt:i<s.length
  rotate_left
  ·obtain rfl:i=s.length:=by omega
   have c1:¬ (s.length:Int)<(s.length:Int):=oQ
   rw [aiv]at hS
   clear hlt hi
   go_wp2_with fail
   go_end0
   exact ⟨_,rfl,by rw [← aj9];exact hS.drop⟩
  have c1:(i:Int)<(s.length:Int):=oQ
  have hwi:=vU (i:=i)
  obtain ⟨x,hx⟩:∃ x,s[i]?=some x:=⟨_,aak hlt⟩
  have hxm:=abA hx
  have Hxk:=uQ (kN.out x hxm).2
  obtain ⟨bk,off,c',hsv,hcell⟩:=iC Hlen.out (Sat.rd (hS.pick aT)) hx aN
  cases hsv
  have fP:=Hlen.out x hxm
  have fB:=uQ (show s.take (i+1)=s.take i++[x] by rw [ajL,hx,ajY])
  have bT:=uQ hlt
  have zh:=uQ (show (s.map fun x=>(x.key,x.val)).map oD=((s.take i).map fun x=>(x.key,x.val)).map oD++oD (x.key,x.val)::((s.drop (i+1)).map fun x=>(x.key,x.val)).map oD by
   have e:s=s.take i++x::s.drop (i+1):=by
    obtain ⟨h1,rfl⟩:=abl.1 hx
    rw [← ajX h1,ajs]
   conv=>lhs;rw [e]
   simp only [aey,ag8])
  clear hx hxm hlt hi
  go_wp2_with (first
   |((with_reducible refine bD ⟨?_⟩);refine gU (b:=bk) (o:=off+i * 38) (slotL bf x) ah hcell Tryz.underlying355 rfl (by rw [fP];kernel_rfl) ?_)
   |(with_reducible apply eU))
  refine ⟨dU yX hS rfl ?_⟩
  intro b7 w7 hS7
  go_wp2_with ((with_reducible apply bY))
  refine ⟨fE (slotL bf x).toArray hS7 ah ah (by rw [aaI,fP];rfl) bZ (by rw [aaI,fP];kernel_rfl) (by rw [adM];exact lQ bf x (xI _)) ?_⟩
  intro w10 dw
  clear hS hS7 hcell
  have f1:w10.rangeAt b7 1 (aA x.key):=qZ (dw.pick aT)
  have f2:w10.rangeAt b7 33 (bf x.val):=XD Hxk.out (dw.pick aT)
  have e1:=Tryz.underlying31
  have kJ:Sat w0 w10 (R (((s.take i).map fun x=>(x.key,x.val)).map oD)++[aC 355 38 (.slice (some ⟨bk,off,none⟩) s.length lc) (s.flatMap (slotL bf)),dY p m B,pt b (.cells #[ptr p] 245 (0,0))]):=
   (dw.drop:Sat w0 w10 ([aC 355 38 (.slice (some ⟨bk,off,none⟩) s.length lc) (s.flatMap (slotL bf)),dY p m B,pt b (.cells #[ptr p] 245 (0,0))]++R (((s.take i).map fun x=>(x.key,x.val)).map oD))).zl
  obtain ⟨yf,yt,ya,yb,hy,hr⟩:=hY _ _ _ w10 _ zh.out kJ
  clear kJ dw hY
  go_step
  go_step
  go_step
  refine Wp ah ?_
  intro K hK
  go_wp2_with (first
   |((with_reducible refine bD ⟨?_⟩);refine gU (b:=b7) (o:=1) (aA x.key) ah f1 e1 rfl (by rw [aV,Hxk.out];kernel_rfl) ?_)
   |((with_reducible refine bD ⟨?_⟩);refine gU (b:=b7) (o:=33) (bf x.val) ah f2 Tryz.underlying248 rfl au ?_))
  refine ⟨_,yf,yt,ya,yb,hy,hr.mono ?_⟩
  rintro ee w12 ⟨rfl,iP⟩
  refine ⟨_,rfl,?_⟩
  have qo:Sat w0 w12 (aC 355 38 (.slice (some ⟨bk,off,none⟩) s.length lc) (s.flatMap (slotL bf))::dY p m B::pt b (.cells #[ptr p] 245 (0,0))::R (((s.take (i+1)).map fun x=>(x.key,x.val)).map oD)):=by
   have:=iP.zl
   rw [fB.out,aey,aey]
   exact this
  clear iP hr hy f1 f2
  go_wp2_with fail
  go_roundg (s.length - (i+1))
  case measure=>have:=bT.out;omega
  case rel=>exact ⟨i+1,rfl,bT.out,by first|rfl|go_num,qo⟩
end
def aJ (p:Nat) (m:aj.Bs→Option (Seg.aU)) (B:Nat):aG:=fun h=>∃ (t:Tab.Tb (Seg.aU)) (sv:Value),(t.Ok∧t.Is m∧t.n+t.gone≤B)∧stars [fU p 180 sv t.n t.gone,aC 178 36 sv (t.slots.flatMap (slotL aK))] h
theorem og:jy Tryz.prog 116=some (.agg (aK Seg.aU.zero).toArray):=by kernel_rfl
section
variable {w0 w:World}{F R:List aG}{p B:Nat}{sv v:Value}{k:aj.Bs}{m:aj.Bs→Option (Seg.aU)}{t:Tab.Tb (Seg.aU)}
theorem aJ.open (h:Sat w0 w (aJ p m B::F)):∃ (t:Tab.Tb (Seg.aU)) (sv:Value),(t.Ok∧t.Is m∧t.n+t.gone≤B)∧Sat w0 w (fU p 180 sv t.n t.gone::aC 178 36 sv (t.slots.flatMap (slotL aK))::F):=by
 obtain ⟨ha,x,hx,q,r,dd,rfl,⟨t,sv,hin,hp⟩,hq⟩:=h
 refine ⟨t,sv,hin,ha,_,hx,?_⟩
 show stars ([fU p 180 sv t.n t.gone,aC 178 36 sv (t.slots.flatMap (slotL aK))]++F) _
 rw [pK]
 exact ⟨q,r,dd,rfl,hp,hq⟩
theorem aJ.shut (h1:t.Ok) (h2:t.Is m) (h3:t.n+t.gone≤B) (h:Sat w0 w (fU p 180 sv t.n t.gone::aC 178 36 sv (t.slots.flatMap (slotL aK))::F)):Sat w0 w (aJ p m B::F):=
 Sat.join (M:=[fU p 180 sv t.n t.gone,aC 178 36 sv (t.slots.flatMap (slotL aK))]) h fun _ hx=>⟨t,sv,⟨h1,h2,h3⟩,hx⟩
theorem U5 (h:Sat w0 w F):Calls Tryz.prog 147 #[] w (aO fun v w'=>∃ p,v=ptr p∧Sat w0 w' (aJ p (fun _=>none) 0::F)):=by
 go_enter Tryz.func147,Tryz.ntmps147
 go_wp2_with (first
  |((with_reducible refine at_make ⟨?_⟩);refine Ik (e:=178) (sz:=36) (dS:=64) (n:=8) au uN h ah ah aN aN ?_;intro bM wM hM)
  |((with_reducible refine eG ⟨?_⟩);refine eH hM ak ak ?_;intro bB wB hB))
 go_ret
 refine ⟨_,rfl,bB,rfl,?_⟩
 have e:(List.replicate 8 (slotL aK ⟨0,aj.zero32,mX⟩)).flatten=(List.replicate 8 (⟨0,aj.zero32,mX⟩:Tab.Slot (Seg.aU))).flatMap (slotL aK):=(GH 8 _).symm
 rw [e]at hB
 exact aJ.shut (t:=⟨List.replicate 8 ⟨0,aj.zero32,mX⟩,0,0⟩) (Tab.U8 aN rfl) (Tab.U6 rfl 0 0) (acy 0) hB
set_option maxRecDepth 20000 in
theorem Sz (hB:B≤268435000) (hk:k.length=32) (h:Sat w0 w (aJ p m B::F)) :
  Calls Tryz.prog 100 #[ptr p,.agg (aA k).toArray] w (aO fun v w'=>v = .tuple #[.agg (aK ((m k).getD Seg.aU.zero)).toArray,.bool (m k).isSome]∧Sat w0 w' (aJ p m B::F)):=by
 obtain ⟨t,sv,⟨ok,is,hb⟩,hR⟩:=aJ.open h
 obtain ⟨d,he⟩:=ok.ends k
 have hsz:t.slots.length≤1073741824:=by have:=ok.size;omega
 have Hlen:=uQ (show ∀ x∈t.slots,(slotL aK x).length=36 from fun x hx=>iT aK x (ok.good.key x hx) 3 (oM _))
 obtain ⟨la,lc,rfl⟩:=iD Hlen.out (Sat.rd (hR.pick aZ)) aN
 have Hk:=uQ hk;have bU:=uQ ok;have iK:=uQ is;have Hb:=uQ hb;have He:=uQ he;have gq:=uQ hsz
 have iV:=uQ ok.good.jG
 clear h hk ok is hb he hsz hB
 go_enter Tryz.func100,Tryz.ntmps100
 go_wp2_with (first|((with_reducible refine eG ⟨?_⟩);refine eH aQ ak ak ?_;intro bB wB hB)|(with_reducible apply eU))
 refine ⟨dU og hB rfl ?_⟩
 intro b4 w4 hS4
 go_wp2_with (with_reducible apply eU)
 refine ⟨dU og hS4 rfl ?_⟩
 intro b6 w6 hS6
 have uh:Sat w0 w6 (fU p 180 (.slice la t.slots.length lc) t.n t.gone::pt b6 (.cells (aK mX).toArray 116 (0,0))::pt b4 (.cells (aK mX).toArray 116 (0,0))::pt bB (.cells (aA k).toArray 31 (0,0))::aC 178 36 (.slice la t.slots.length lc) (t.slots.flatMap (slotL aK))::F):=hS6.sb
 clear hB hS4 hS6 hR
 go_wp2_with fail
 refine (zS iV.out uh).mono ?_
 rintro ee w7 ⟨v,rfl,rfl,rfl⟩
 go_wp2_with ((with_reducible refine bD ⟨?_⟩);refine gI uh ah (aW (aW (aW aT))) Tryz.underlying31 rfl (by rw [aaI,aV,Hk.out];kernel_rfl) ?_)
 have hf:=BH bU.out.good gq.out Hk.out He.out (uh.sb:Sat w0 w6 (fU p 180 (.slice la t.slots.length lc) t.n t.gone::aC 178 36 (.slice la t.slots.length lc) (t.slots.flatMap (slotL aK))::pt b6 (.cells (aK mX).toArray 116 (0,0))::pt b4 (.cells (aK mX).toArray 116 (0,0))::F))
 clear uh
 refine hf.mono ?_
 rintro ee w8 ⟨v,rfl,x,hx,rfl,iR⟩
 clear hf
 obtain ⟨m1,m2⟩:=iK.out.some bU.out He.out hx
 have hxm:=abA hx
 have hxk:=bU.out.good.key x hxm
 obtain ⟨bk,off,c',hsv,hcell⟩:=iC Hlen.out (Sat.rd (iR.pick aZ)) hx aN
 cases hsv
 have hlt:=Tab.lX (k:=k) (d:=d) iV.out
 have hval:∀ j v,(aK x.val)[j]?=some v→w8.cell? ⟨bk,off+Tab.pos k t.slots.length d * 36+33+j,none⟩=some v:=fun j v hj=>by
  rw [akU _ 33 j]
  exact hcell (33+j) v (NY aK x hxk hj)
 clear hcell hx hxm
 generalize Tab.pos k t.slots.length d=P0 at *
 have c0:(0:Int)≤(P0:Int):=oQ
 have c1:(P0:Int)<(t.slots.length:Int):=oQ
 have e0:w8.cell? ⟨p,0,none⟩=some (.slice (some ⟨bk,off,none⟩) t.slots.length lc):=iR.cellP aY 0 rfl
 by_cases h1:x.st=1
 ·have hd:decide (x.st=1)=true:=aiu h1
  have Hm:=uQ (m1 h1)
  clear m1 m2 h1
  go_wp2_with (first
   |((with_reducible refine bD ⟨?_⟩);refine dV iR ah aY bF ak au ?_)
   |((with_reducible refine bD ⟨?_⟩);refine gU (b:=bk) (o:=off+P0 * 36+33) (aK x.val) ah hval Tryz.underlying116 rfl au ?_)
   |((with_reducible refine bY ⟨?_⟩);refine fE (aK x.val).toArray iR ah ah ah (jh (jh (jh bZ))) au ah ?_;intro w10 dw))
  refine ⟨rfl,_,lN rfl dw ah aY Tryz.underlying116 rfl au,_,rfl,?_,aJ.shut bU.out iK.out Hb.out (dw.sb)⟩
  rw [Hm.out];rfl
 ·have hd:decide (x.st=1)=false:=aex h1
  have Hm:=uQ (m2 h1)
  clear m1 m2 h1
  go_wp2_with (first
   |((with_reducible refine bD ⟨?_⟩);refine gI iR ah (aW (aW (aT (A:=pt b6 (.cells (aK mX).toArray 116 (0,0)))))) Tryz.underlying116 rfl au ?_)
   |((with_reducible refine bY ⟨?_⟩);refine fE (aK mX).toArray iR ah ah ah (jh (jh (jh bZ))) au ah ?_;intro w10 dw))
  refine ⟨rfl,_,lN rfl dw ah (aW (aW (aW aT))) Tryz.underlying116 rfl au,_,rfl,?_,aJ.shut bU.out iK.out Hb.out (dw.sb)⟩
  rw [Hm.out];rfl
end
section
variable {w0 w:World}{F R:List aG}{p B N:Nat}{sv v:Value}{k:aj.Bs}{m:aj.Bs→Option (Seg.aU)}{t:Tab.Tb (Seg.aU)}
set_option maxRecDepth 20000 in
theorem Wv (ok:t.Ok) (hN:t.n≤N) (hNb:N≤134217728) (ac4:t.slots.length≤1073741824) (h:Sat w0 w (fU p 180 sv t.n t.gone::aC 178 36 sv (t.slots.flatMap (slotL aK))::F)) :
  Calls Tryz.prog 112 #[ptr p,.int .i64 N] w (aO fun _ w'=>∃ s' sv',Tab.uX t s' N∧Sat w0 w' (fU p 180 sv' t.n 0::aC 178 36 sv' (s'.flatMap (slotL aK))::F)):=by
 have bU:=uQ ok;have HN:=uQ hN;have YG:=uQ hNb
 have Hlen:=uQ (show ∀ x∈t.slots,(slotL aK x).length=36 from fun x hx=>iT aK x (ok.good.key x hx) 3 (oM _))
 obtain ⟨la,lc,rfl⟩:=iD Hlen.out (Sat.rd (h.pick aZ)) aN
 have hw0:IntKind.i64.wrap (2 * (N:Int))=2 * (N:Int):=acI _ oQ
 have adp:wrap64 (2 * (N:Int))=2 * (N:Int):=ajM _ oQ
 clear ok hN
 go_enter Tryz.func112,Tryz.ntmps112
 go_wp2_with fail
 go_loopg [4] (4 * N) (fun g cq wr=>∃ c:Nat,g=4 * N+8 - c∧cq = .int .i64 c∧(∃ j,c=2^j∧3≤j)∧8≤c∧(c=8∨c<4 * N)∧wr=w)
 case atStart=>exact ⟨8,by omega,rfl,⟨3,rfl,acy 3⟩,acy 8,.inl rfl,rfl⟩
 case round=>
  obtain ⟨c,rfl,rfl,⟨j,hj,hj3⟩,hc8,hc,rfl⟩:=hrel
  by_cases hlt:c<2 * N
  ·have c1:(c:Int)<2 * (N:Int):=by omega
   have hw1:IntKind.i64.wrap ((c:Int) * 2)=(c:Int) * 2:=acI _ oQ
   have adq:wrap64 ((c:Int) * 2)=(c:Int) * 2:=ajM _ oQ
   have Hj:=uQ hj;have I7:=uQ hj3;have bT:=uQ hlt;have xg:=uQ hc8
   clear hj hj3 hlt hc hc8
   go_wp2_with fail
   go_roundg (4 * N+8 - c * 2)
   case measure=>have:=bT.out;have:=xg.out;omega
   case rel=>exact ⟨c * 2,rfl,by first|rfl|go_num,⟨j+1,by rw [alA,Hj.out],by have:=I7.out;omega⟩,by have:=xg.out;omega,.inr (by have:=bT.out;omega),rfl⟩
  ·have c1:¬ (c:Int)<2 * (N:Int):=by omega
   have HC:=uQ (show (∃ j,c=2^j∧3≤j)∧2 * N≤c∧8≤c∧(c=8∨c<4 * N) from ⟨⟨j,hj,hj3⟩,by omega,hc8,hc⟩)
   have hcb:c≤1073741824:=oQ
   have xk:=uQ hcb
   clear hj hj3 hlt hc hc8 hw0 hcb hNb
   go_wp2_with (first
    |((with_reducible refine bD ⟨?_⟩);refine dV h ah aY bF ak au ?_)
    |((with_reducible refine at_make ⟨?_⟩);refine Ik (e:=178) (sz:=36) (dS:=64) (n:=c) au uN h ah ah (by have:=xk.out;omega) (by have:=xk.out;omega) ?_;intro bM wM hM)
    |((with_reducible refine bY ⟨?_⟩);refine eY aQ ah ak pQ eF bF au ah ?_;intro wS hS))
   have e8:(List.replicate c (slotL aK ⟨0,aj.zero32,mX⟩)).flatten=(List.replicate c (⟨0,aj.zero32,mX⟩:Tab.Slot (Seg.aU))).flatMap (slotL aK):=(GH c _).symm
   rw [e8]at hS
   have hS0:Sat w0 _ (fU p 180 (.slice (some ⟨bM,0,none⟩) c c) t.n 0::aC 178 36 (.slice (some ⟨bM,0,none⟩) c c) ((List.replicate c (⟨0,aj.zero32,mX⟩:Tab.Slot (Seg.aU))).flatMap (slotL aK))::aC 178 36 (.slice la t.slots.length lc) (t.slots.flatMap (slotL aK))::F):=hS.sb
   clear hS hM h e8 c1
   go_wp2_with fail
   go_loopg [31] t.slots.length (fun g iq wr=>∃ (i:Nat) (cur:List (Tab.Slot (Seg.aU))),g=t.slots.length - i∧i≤t.slots.length∧iq = .int .i64 i∧Tab.Half t.slots cur i∧cur.length=c ∧
    Sat w0 wr (fU p 180 (.slice (some ⟨bM,0,none⟩) c c) t.n 0::aC 178 36 (.slice (some ⟨bM,0,none⟩) c c) (cur.flatMap (slotL aK))::aC 178 36 (.slice la t.slots.length lc) (t.slots.flatMap (slotL aK))::F))
   case atStart=>exact ⟨0,_,rfl,afm _,rfl,Tab.half_start HC.out.1 aN rfl,ajI,hS0⟩
   case round=>
    obtain ⟨i,cur,rfl,hi,rfl,hH,hcl,hS⟩:=hrel
    clear hS0
    have HH:=uQ hH;have iF:=uQ hcl
    by_cases hlt:i<t.slots.length
    rotate_left
    ·obtain rfl:i=t.slots.length:=by omega
     have c1:¬ (t.slots.length:Int)<(t.slots.length:Int):=oQ
     clear hlt hH hi
     go_wp2_with fail
     go_end0
     obtain ⟨q1,q2,q3,q4⟩:=HH.out.done
     exact ⟨_,rfl,cur,⟨q1,q2,q3.trans bU.out.n.symm,q4.trans bU.out.n.symm,by rw [iF.out];exact HC.out.2.1,by rw [iF.out];exact HC.out.2.2.1,by rw [iF.out];exact HC.out.2.2.2⟩,_,hS.sb⟩
    have c1:(i:Int)<(t.slots.length:Int):=oQ
    have hwi:=vU (i:=i)
    obtain ⟨x,hx⟩:∃ x,t.slots[i]?=some x:=⟨_,aak hlt⟩
    have hxm:=abA hx
    have hst:=bU.out.good.st x hxm
    have Hxk:=uQ (bU.out.good.key x hxm)
    obtain ⟨bk,off,c',hsv,hcell⟩:=iC Hlen.out (Sat.rd (hS.pick fG)) hx aN
    cases hsv
    have fP:=Hlen.out x hxm
    have Hx:=uQ hx;have bT:=uQ hlt
    clear hx hxm hlt hH hi
    go_wp2_with (first
     |((with_reducible refine bD ⟨?_⟩);refine gU (b:=bk) (o:=off+i * 36) (slotL aK x) ah hcell Tryz.underlying178 rfl (by rw [fP];kernel_rfl) ?_)
     |(with_reducible apply eU))
    refine ⟨dU uN hS rfl ?_⟩
    intro b7 w7 hS7
    go_wp2_with (first|((with_reducible refine bY ⟨?_⟩);refine fE (slotL aK x).toArray hS7 ah ah (by rw [aaI,fP];rfl) bZ (by rw [aaI,fP];kernel_rfl) (by rw [adM];exact lQ aK x (uF _)) ?_;intro w10 dw)|(with_reducible apply bD))
    refine ⟨?_⟩
    clear hS hS7 hcell
    have f0:w10.cell? ⟨b7,0,none⟩=some (.int .i64 x.st):=dw.cellP aT 0 (by rw [abL];rfl)
    have f1:w10.rangeAt b7 1 (aA x.key):=qZ (dw.pick aT)
    by_cases h1:x.st=1
    rotate_left
    ·have hst1:((x.st:Int)==1)=false:=by rw [adW];omega
     have H1:=uQ h1
     clear h1 f1
     go_wp2_with fail
     go_roundg (t.slots.length - (i+1))
     case measure=>have:=bT.out;omega
     case rel=>exact ⟨i+1,cur,rfl,bT.out,by first|rfl|go_num,HH.out.skip Hx.out H1.out,iF.out,dw.sb⟩
    ·have hus:Tab.used cur<cur.length:=by
      have h2:=HH.out.nu
      have h3:=Tab.Si t.slots i
      have h4:=bU.out.n
      have h5:=HN.out
      have h6:=HC.out
      rw [iF.out];omega
     obtain ⟨dd,hdd⟩:=Tab.Kt (k:=x.key) HH.out.good (Tab.KA hus)
     have H1:=uQ h1;have yY:=uQ hdd
     have hst1:((x.st:Int)==1)=true:=by rw [h1];rfl
     have AP:=uQ (show ∀ y∈cur,(slotL aK y).length=36 from fun y hy=>iT aK y (HH.out.good.key y hy) 3 (oM _))
     clear h1 hus hdd
     go_wp2_with ((with_reducible refine bD ⟨?_⟩);refine gU (b:=b7) (o:=1) (aA x.key) ah f1 Tryz.underlying31 rfl (by rw [aV,Hxk.out];kernel_rfl) ?_)
     have hf:=BH HH.out.good (by rw [iF.out];exact xk.out) Hxk.out yY.out (dw.sb:Sat w0 w10 (fU p 180 (.slice (some ⟨bM,0,none⟩) c c) t.n 0::aC 178 36 (.slice (some ⟨bM,0,none⟩) c c) (cur.flatMap (slotL aK))::pt b7 (.cells (slotL aK x).toArray 178 (0,0))::aC 178 36 (.slice (some ⟨bk,off,none⟩) t.slots.length lc) (t.slots.flatMap (slotL aK))::F))
     clear dw f0 f1
     refine hf.mono ?_
     rintro ee jd ⟨v,rfl,y,hy,rfl,kJ⟩
     clear hf hy
     have hlt2:=Tab.lX (k:=x.key) (d:=dd) HH.out.good.jG
     rw [iF.out]at hlt2
     have Bl:=uQ (Ac (f:=slotL aK) (k:=36) (i:=Tab.pos x.key cur.length dd) (x:=x) AP.out fP (Tab.lX HH.out.good.jG))
     have Bq:=uQ (HH.out.step bU.out.good Hx.out H1.out yY.out)
     rw [iF.out]at Bl Bq
     rw [iF.out]
     have hrl:(cur.flatMap (slotL aK)).length=36 * c:=by rw [iE AP.out,iF.out]
     generalize Tab.pos x.key c dd=P0 at *
     have c2:(0:Int)≤(P0:Int):=oQ
     have c3:(P0:Int)<(c:Int):=oQ
     go_wp2_with fail
     have hSd:=kJ.drew
     clear kJ
     refine dH [6,7] (fun w'=>w'.cell? ⟨p,0,none⟩=some (.slice (some ⟨bM,0,none⟩) c c)∧w'.rangeAt b7 0 (slotL aK x)) au ?_
     have hG:World.cell? _ ⟨p,0,none⟩=some (.slice (some ⟨bM,0,none⟩) c c)∧World.rangeAt _ b7 0 (slotL aK x):=⟨hSd.cellP aY 0 rfl,oN (hSd.pk (A:=pt b7 (.cells (slotL aK x).toArray 178 (0,0))))⟩
     refine rP 0 ?_ (y:=aX)
     refine rP 1 ?_ (y:=dZ)
     refine rP 2 ?_ (y:=cO)
     refine rt 3 (h:=?_)
     refine rP 4 ?_ (y:=aX)
     refine eP 5 ak au bK (ig (b:=b7) (o:=0) (slotL aK x) ah Tryz.underlying178 rfl (by rw [fP];kernel_rfl) (fun w hw=>hw.2)) aQ gQ ?_
     refine rP 6 ?_ (y:=gX)
     clear hG
     refine bV 7 ak au (fun K hK=>?_)
     refine xW (vs:=slotL aK x) (P0 * 36) hSd ak ak rfl (jh bZ) (by rw [fP,hrl];omega) (by rw [fP];kernel_rfl) (lQ aK x (uF _)) ?_
     intro w12 iP
     refine hK _ _ (.inl rfl) ?_
     clear hK hSd
     refine dD au ?_
     try simp only [iO]
     try go_frame
     rw [← Bl.out]at iP
     go_wp2_with fail
     go_roundg (t.slots.length - (i+1))
     case measure=>have:=bT.out;omega
     case rel=>exact ⟨i+1,_,rfl,bT.out,by first|rfl|go_num,Bq.out,by rw [aj0];exact iF.out,iP.sb⟩
end
theorem ag3 (k:aj.Bs) (hk:k.length=32) (v:Seg.aU) (w:World) :
  (Instr.build 178 #[(0,.int .i64 1),(1,.agg (aA k).toArray),(2,.agg (aK v).toArray)]).run Tryz.prog w = .ok (.agg (slotL aK ⟨1,k,v⟩).toArray) w:=by
 have hbk:(aA k).toArray.size=32:=by rw [aaI,aV,hk]
 refine (ak8 (P:=Tryz.prog) [(0,.int .i64 1),(1,.agg (aA k).toArray),(2,.agg (aK v).toArray)] VH uN (by
  intro p' hp
  simp only [aer,ajU,alb]at hp
  have hzz:(Value.agg (slotL aK (⟨0,aj.zero32,mX⟩:Tab.Slot (Seg.aU))).toArray).cells.size=36:=by
   show (slotL aK (⟨0,aj.zero32,mX⟩:Tab.Slot (Seg.aU))).toArray.size=36
   rw [aaI,iT aK _ aN 3 rfl]
  rw [hzz]
  rcases hp with rfl|rfl|rfl
  ·exact ⟨0,rfl,by show 0+1≤36;omega⟩
  ·refine ⟨1,?_,?_⟩
   ·show some (1,32)=some (1,(aA k).toArray.size);rw [hbk]
   ·show 1+(aA k).toArray.size≤36;omega
  ·exact ⟨33,rfl,by show 33+3≤36;omega⟩) w).trans ?_
 rw [show (Value.agg (slotL aK (⟨0,aj.zero32,mX⟩:Tab.Slot (Seg.aU))).toArray).cells=(slotL aK (⟨0,aj.zero32,mX⟩:Tab.Slot (Seg.aU))).toArray from rfl,VW aK ⟨0,aj.zero32,mX⟩ k v aN hk rfl 3 rfl]
section
variable {w0 w:World}{F R:List aG}{p B:Nat}{sv:Value}{k:aj.Bs}{m:aj.Bs→Option (Seg.aU)}
set_option maxRecDepth 20000 in
theorem Gi (hB:B≤134217000) (hk:k.length=32) (v:Seg.aU) (h:Sat w0 w (aJ p m B::F)) :
  Calls Tryz.prog 63 #[ptr p,.agg (aA k).toArray,.agg (aK v).toArray] w (aO fun _ w'=>Sat w0 w' (aJ p (Tab.put m k v) (B+1)::F)):=by
 obtain ⟨t,sv,⟨ok,is,hb⟩,hR⟩:=aJ.open h
 obtain ⟨d,he⟩:=ok.ends k
 have hsz:t.slots.length≤1073741824:=by have:=ok.size;omega
 have Hlen:=uQ (show ∀ x∈t.slots,(slotL aK x).length=36 from fun x hx=>iT aK x (ok.good.key x hx) 3 (oM _))
 obtain ⟨la,lc,rfl⟩:=iD Hlen.out (Sat.rd (hR.pick aZ)) aN
 have hrl:0<(t.slots.flatMap (slotL aK)).length:=by rw [iE Hlen.out];have:=ok.good.jG;omega
 obtain ⟨bk,rfl⟩:=Dw (hR.pick aZ) hrl
 have Hk:=uQ hk;have bU:=uQ ok;have iK:=uQ is;have Hb:=uQ hb;have He:=uQ he;have gq:=uQ hsz;have HB:=uQ hB
 have iV:=uQ ok.good.jG
 have sW:=uQ (show (aA k).length=32 by rw [aV,hk])
 clear h hk ok is hb he hsz hB hrl
 go_enter Tryz.func63,Tryz.ntmps63
 go_wp2_with (with_reducible apply eG)
 refine ⟨eH hR ak ak ?_⟩
 intro b4 w4 hS4
 go_wp2_with (with_reducible apply eG)
 refine ⟨eH hS4 ak ak ?_⟩
 intro b5 w5 hS5
 have hA:Sat w0 w5 (fU p 180 (.slice (some ⟨bk,0,none⟩) t.slots.length lc) t.n t.gone::aC 178 36 (.slice (some ⟨bk,0,none⟩) t.slots.length lc) (t.slots.flatMap (slotL aK))::pt b4 (.cells (aA k).toArray 31 (0,0))::pt b5 (.cells (aK v).toArray 116 (0,0))::F):=hS5.sb
 clear hR hS4 hS5
 go_wp2_with fail
 refine (zS iV.out hA).mono ?_
 rintro ee w7 ⟨v',rfl,rfl,rfl⟩
 go_wp2_with ((with_reducible refine bD ⟨?_⟩);refine gI hA ah (aW (aW (aT (A:=pt b4 (.cells (aA k).toArray 31 (0,0)))))) Tryz.underlying31 rfl (by rw [aaI,sW.out];kernel_rfl) ?_)
 have hf:=BH bU.out.good gq.out Hk.out He.out hA
 clear hA
 refine hf.mono ?_
 rintro ee w8 ⟨v',rfl,x,hx,rfl,iR⟩
 clear hf
 have hlt:=Tab.lX (k:=k) (d:=d) iV.out
 by_cases h1:x.st=1
 ·have hd:decide (x.st=1)=true:=aiu h1
  have hxm:=abA hx
  have pW:=uQ (Gz (f:=slotL aK) (k:=36) (o:=33) (x':=⟨x.st,x.key,v⟩) (vs:=aK v) Hlen.out hx (XC aK x v (bU.out.good.key x hxm) rfl) (by show 33+3≤36;decide))
  have l7:=uQ (Tab.VU bU.out He.out hx h1 v)
  have qF:=uQ (Tab.Fz iK.out (Tab.MN bU.out.good He.out hx h1 v).2 t.n t.gone)
  have hrl:(t.slots.flatMap (slotL aK)).length=36 * t.slots.length:=iE Hlen.out
  clear hx hxm h1
  generalize Tab.pos k t.slots.length d=P0 at *
  have c0:(0:Int)≤(P0:Int):=oQ
  have c1:(P0:Int)<(t.slots.length:Int):=oQ
  go_wp2_with fail
  have hSd:=iR.drew
  clear iR
  refine dH [6,7,8] (fun w'=>w'.cell? ⟨p,0,none⟩=some (.slice (some ⟨bk,0,none⟩) t.slots.length lc)∧w'.rangeAt b5 0 (aK v)) au ?_
  have hG:World.cell? _ ⟨p,0,none⟩=some (.slice (some ⟨bk,0,none⟩) t.slots.length lc)∧World.rangeAt _ b5 0 (aK v):=⟨hSd.cellP aY 0 rfl,oN (hSd.pk (A:=pt b5 (.cells (aK v).toArray 116 (0,0))))⟩
  refine rP 0 ?_ (y:=aX)
  refine rP 1 ?_ (y:=dZ)
  refine rP 2 ?_ (y:=cO)
  refine rt 3 (h:=?_)
  refine rP 4 ?_ (y:=aX)
  refine eP 5 ak au bK (ig (b:=b5) (o:=0) (aK v) ah Tryz.underlying116 rfl au (fun w hw=>hw.2)) aQ gQ ?_
  refine rP 6 ?_ (y:=gX)
  refine rP 7 ?_ (y:=cO)
  clear hG
  refine bV 8 ak au (fun K hK=>?_)
  refine xW (vs:=aK v) (P0 * 36+33) hSd ak ak rfl (jh bZ) (by rw [hrl];show P0 * 36+33+3≤_;omega) au ah ?_
  intro w12 iP
  refine hK _ _ (.inl rfl) ?_
  clear hK hSd
  refine dD au ?_
  try simp only [iO]
  try go_frame
  rw [← pW.out]at iP
  go_wp2_with fail
  go_end0
  exact ⟨_,rfl,aJ.shut (sv:= .slice (some ⟨bk,0,none⟩) t.slots.length lc) l7.out qF.out (Nat.le_succ_of_le Hb.out) (iP.sb)⟩
 have hd:decide (x.st=1)=false:=aex h1
 have hb4:=Hb.out
 have hB4:=HB.out
 have CS:=gq.out
 obtain ⟨hA1,hA2,hA3,BU,BP,BQ,BR,BX,BZ⟩:=Yn t.n t.gone t.slots.length oQ CS
 have Hx:=uQ hx;have H1:=uQ h1
 clear hx h1 hb4 hB4 CS
 go_wp2_with fail
 have hSd:=iR.drew
 clear iR
 have e0:World.cell? _ ⟨p,0,none⟩=some (.slice (some ⟨bk,0,none⟩) t.slots.length lc):=hSd.cellP aY 0 rfl
 have e1:World.cell? _ ⟨p,1,none⟩=some (.int .i64 t.n):=hSd.cellP aY 1 rfl
 have e2:World.cell? _ ⟨p,2,none⟩=some (.int .i64 t.gone):=hSd.cellP aY 2 rfl
 go_region
 have hcmp:3 * t.slots.length<4 * (t.n+t.gone+1)∨4 * (t.n+t.gone+1)≤3 * t.slots.length:=oQ
 rcases hcmp with hcmp|hcmp
 focus
  have hci:(3:Int) * (t.slots.length:Int)<4 * ((t.n:Int)+(t.gone:Int)+1):=oQ
  have hrn:=Wv (N:=t.n+1) bU.out (aj8 _) (by have:=Hb.out;have:=HB.out;omega) gq.out hSd
  rw [show (((t.n+1:Nat)):Int)=(t.n:Int)+1 by omega]at hrn
  clear hSd e0 e2
  go_wp2_with fail
  refine hrn.mono ?_
  rintro ee w9 ⟨v',rfl,s',sv',qw,iG⟩
  clear hrn e1 hci hcmp
  have hok1:=qw.ok
  have yu:=qw.is iK.out t.n 0
  have yw:4 * ((⟨s',t.n,0⟩:Tab.Tb (Seg.aU)).n+(⟨s',t.n,0⟩:Tab.Tb (Seg.aU)).gone+1)≤3 * (⟨s',t.n,0⟩:Tab.Tb (Seg.aU)).slots.length:=by have:=qw.lo;simp only;omega
  have hb1:(⟨s',t.n,0⟩:Tab.Tb (Seg.aU)).n+(⟨s',t.n,0⟩:Tab.Tb (Seg.aU)).gone≤B:=by have:=Hb.out;simp only;omega
  have dw:Sat w0 w9 (fU p 180 sv' (⟨s',t.n,0⟩:Tab.Tb (Seg.aU)).n (⟨s',t.n,0⟩:Tab.Tb (Seg.aU)).gone::aC 178 36 sv' ((⟨s',t.n,0⟩:Tab.Tb (Seg.aU)).slots.flatMap (slotL aK))::pt b4 (.cells (aA k).toArray 31 (0,0))::pt b5 (.cells (aK v).toArray 116 (0,0))::F):=iG
  clear iG qw hA1 hA2 hA3 BU BP BQ BR BX BZ
  generalize (⟨s',t.n,0⟩:Tab.Tb (Seg.aU))=t1 at hok1 yu yw hb1 dw
  have tu:=uQ (show ∀ x∈t1.slots,(slotL aK x).length=36 from fun x hx=>iT aK x (hok1.good.key x hx) 3 (oM _))
  obtain ⟨Ls,uy,rfl⟩:=iD tu.out (Sat.rd (dw.pick aZ)) aN
  have lG:=uQ hok1;have tq:=uQ yu;have xC:=uQ yw;have Hb1:=uQ hb1
  obtain ⟨d1,he1⟩:=hok1.ends k
  have lZ:=uQ he1
  have hno:m k=none:=by
   obtain ⟨_,q2⟩:=iK.out.some bU.out He.out Hx.out
   exact q2 H1.out
  have hsz1:t1.slots.length≤1073741824:=by have:=hok1.size;have:=HB.out;omega
  clear hok1 yu yw hb1 he1
  go_wp2_with ((with_reducible refine bD ⟨?_⟩);refine gI dw ah (aW (aW (aT (A:=pt b4 (.cells (aA k).toArray 31 (0,0)))))) Tryz.underlying31 rfl (by rw [aaI,sW.out];kernel_rfl) ?_)
  have hf:=BH lG.out.good hsz1 Hk.out lZ.out dw
  clear dw hsz1
  refine hf.mono ?_
  rintro ee w8b ⟨v',rfl,x1,hx1,rfl,hT⟩
  have qg:=uQ hx1
  have sS:=uQ (show x1.st≠1 from fun h=>by
   have:=(tq.out.some lG.out lZ.out hx1).1 h
   rw [hno]at this;cases this)
  clear hf hx1 hno Hx H1 He bU iK Hlen iV Hb gq hlt hd
  go_wp2_with fail
 rotate_left
 focus
  have hci:¬ (3:Int) * (t.slots.length:Int)<4 * ((t.n:Int)+(t.gone:Int)+1):=oQ
  have xC:=uQ hcmp
  clear e0 e1 e2 hcmp
  go_wp2_with fail
  clear hci hA1 hA2 hA3 BU BP BQ BR BX BZ hlt hd iV gq
  obtain ⟨t1,rfl⟩:∃ y,y=t:=⟨t,rfl⟩
  obtain ⟨x1,rfl⟩:∃ y,y=x:=⟨x,rfl⟩
  obtain ⟨d1,rfl⟩:∃ y,y=d:=⟨d,rfl⟩
  obtain ⟨Ls,CG⟩:∃ y:Option Addr,y=some ⟨bk,0,none⟩:=⟨_,rfl⟩
  obtain ⟨uy,rfl⟩:∃ y,y=lc:=⟨lc,rfl⟩
  rw [← CG]at hSd
  have hT:=hSd
  have lG:=uQ bU.out;have tq:=uQ iK.out;have Hb1:=uQ Hb.out;have lZ:=uQ He.out;have qg:=uQ Hx.out;have sS:=uQ H1.out;have tu:=uQ Hlen.out
  clear hSd bU iK Hb He Hx H1 Hlen CG
 all_goals
  have hrl:(t1.slots.flatMap (slotL aK)).length=36 * t1.slots.length:=iE tu.out
  obtain ⟨bk1,rfl⟩:=Dw (hT.pick aZ) (by rw [hrl];have:=lG.out.good.jG;omega)
  have pW:=uQ (Ac (f:=slotL aK) (k:=36) (i:=Tab.pos k t1.slots.length d1) (x:=⟨1,k,v⟩) tu.out (iT aK _ Hk.out 3 rfl) (Tab.lX lG.out.good.jG))
  have l7:=uQ (Tab.VR lG.out xC.out lZ.out qg.out sS.out Hk.out v)
  have qF:=uQ (Tab.Fz tq.out (Tab.Gj lG.out.good lZ.out qg.out sS.out Hk.out v).2 (t1.n+1) t1.gone)
  have hlt1:=Tab.lX (k:=k) (d:=d1) lG.out.good.jG
  have hls:=iT aK (⟨1,k,v⟩:Tab.Slot (Seg.aU)) Hk.out 3 rfl
  have hwn:IntKind.i64.wrap ((t1.n:Int)+1)=(t1.n:Int)+1:=acI _ (by have:=Hb1.out;have:=HB.out;omega)
  clear qg sS lZ lG tq xC
  generalize Tab.pos k t1.slots.length d1=P1 at *
  have c0:(0:Int)≤(P1:Int):=oQ
  have c1:(P1:Int)<(t1.slots.length:Int):=oQ
  have hSd:=hT.drew
  clear hT
  refine dH [8,9] (fun w'=>w'.cell? ⟨p,0,none⟩=some (.slice (some ⟨bk1,0,none⟩) t1.slots.length uy)∧w'.rangeAt b4 0 (aA k)∧w'.rangeAt b5 0 (aK v)) au ?_
  have hG:World.cell? _ ⟨p,0,none⟩=some (.slice (some ⟨bk1,0,none⟩) t1.slots.length uy)∧World.rangeAt _ b4 0 (aA k)∧World.rangeAt _ b5 0 (aK v):=⟨hSd.cellP aY 0 rfl,oN (hSd.pk (A:=pt b4 (.cells (aA k).toArray 31 (0,0)))),oN (hSd.pk (A:=pt b5 (.cells (aK v).toArray 116 (0,0))))⟩
  refine rP 0 ?_ (y:=aX)
  refine rP 1 ?_ (y:=dZ)
  refine rP 2 ?_ (y:=cO)
  refine rt 3 (h:=?_)
  refine rP 4 ?_ (y:=aX)
  refine eP 5 ak au bK (ig (b:=b4) (o:=0) (aA k) ah Tryz.underlying31 rfl (by rw [sW.out];kernel_rfl) (fun w hw=>hw.2.1)) aQ gQ ?_
  refine eP 6 ak au bK (ig (b:=b5) (o:=0) (aK v) ah Tryz.underlying116 rfl au (fun w hw=>hw.2.2)) aQ gQ ?_
  refine rP 7 ?_ (y:=(Aw ak ak ak (fun w=>ag3 k Hk.out v w)))
  refine rP 8 ?_ (y:=gX)
  clear hG
  refine bV 9 ak au (fun K hK=>?_)
  refine xW (vs:=slotL aK ⟨1,k,v⟩) (P1 * 36) hSd ak ak rfl (jh bZ) (by rw [hrl,hls];omega) (by rw [hls];kernel_rfl) (lQ aK _ ah) ?_
  intro w12 iP
  refine hK _ _ (.inl rfl) ?_
  clear hK hSd
  refine dD au ?_
  try simp only [iO]
  try go_frame
  rw [← pW.out]at iP
  go_wp2_with (first
   |((with_reducible refine bD ⟨?_⟩);refine dV iP ah aY bF ak au ?_)
   |((with_reducible refine bY ⟨?_⟩);refine eY aQ ah ak pQ eF bF au ah ?_;intro wS hS))
  go_end0
  exact ⟨_,rfl,aJ.shut (sv:= .slice (some ⟨bk1,0,none⟩) t1.slots.length uy) l7.out qF.out (by have:=Hb1.out;simp only;omega) (hS.sb)⟩
end
set_option maxRecDepth 20000 in
theorem aaS (x y:Tab.Slot (Seg.aU)) (hx:x.key.length=32) (hy:y.key.length=32) (W:World) :
  Calls Tryz.prog 210 #[.agg (slotL aK x).toArray,.agg (slotL aK y).toArray] W fun e w'=>e = .returned (.int .i64 (Lib.compareBytes x.key y.key))∧∃ q os',w'=Sort.grow (W.drewN q) os':=by
 have h0:=Sat.start W
 have h1:=h0.alloc (.cells (slotL aK x).toArray 178)
 have h2:=(h1.alloc (.cells (slotL aK y).toArray 178)).drew
 have hsz:(W.alloc (.cells (slotL aK x).toArray 178)).heap.size=W.heap.size+1:=Array.size_push ..
 rw [hsz]at h2
 have r1:bg 1 (.slice (some ⟨W.heap.size,1,none⟩) 32 32) (aA x.key) ((W.alloc (.cells (slotL aK x).toArray 178)).alloc (.cells (slotL aK y).toArray 178)).drew:=
  ⟨_,_,_,rfl,by rw [aV,hx],fun j z hj=>⟨_,rfl,by rw [tK];exact qZ (h2.pick aZ) j z hj⟩⟩
 have r2:bg 1 (.slice (some ⟨W.heap.size+1,1,none⟩) 32 32) (aA y.key) ((W.alloc (.cells (slotL aK x).toArray 178)).alloc (.cells (slotL aK y).toArray 178)).drew:=
  ⟨_,_,_,rfl,by rw [aV,hy],fun j z hj=>⟨_,rfl,by rw [tK];exact qZ (h2.pick aT) j z hj⟩⟩
 have hb:=JU x.key y.key r1 r2
 clear h0 h1 h2 r1 r2 hsz
 generalize Lib.compareBytes x.key y.key=r at *
 go_enter Tryz.func210,Tryz.ntmps210
 go_wp2_with fail
 have hG:True:=trivial
 refine dH [] (fun w'=>True) au ?_
 refine rP 0 ?_ (y:=cO)
 refine rp 1 (hy:=(by (refine Or.inl ⟨by rfl,?_⟩;((intro wq;go_simp);first|done|exact wQ)))) (h:=?_)
 refine rP 2 ?_ (y:=cO)
 refine rp 3 (hy:=(by (refine Or.inl ⟨by rfl,?_⟩;((intro wq;go_simp);first|done|exact wQ)))) (h:=?_)
 refine bV 4 ak au (fun K hK=>?_)
 (refine gy au ak ak ?_)
 refine hb.mono ?_
 rintro e w' ⟨rfl,rfl⟩
 refine hK _ _ (.inr (.inr rfl)) ?_
 clear hK hb
 refine rP 5 ?_ (y:=fJ)
 refine dD au ?_
 clear hG
 go_wp2_with fail
 go_ret
 exact ⟨rfl,1,#[.cells (slotL aK x).toArray 178,.cells (slotL aK y).toArray 178],by rw [Sort.alloc_eq_grow,Sort.alloc_eq_grow,Sort.grow_grow,Sort.drew_grow];rfl⟩
end Go.Proofs.YtiglchkhikciiaaGreatDoor
