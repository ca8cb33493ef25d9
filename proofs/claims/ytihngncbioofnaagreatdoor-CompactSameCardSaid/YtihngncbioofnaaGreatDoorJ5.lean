import Derived.Test.YtihngncbioofnaaGreatDoorJ4
import Derived.Lib.Bytealg
import Derived.Lib.BytesEntry
import Derived.Sort.Grow
import Derived.Sort.OwnSorted
import Derived.Shelf.SlSortCmp.WholeK
import Derived.Shelf.SlSortCmp.NoneTotal
import Derived.Test.YtihngncbioofnaaGreatDoorSort
import Derived.RangeFuncNested
import Derived.RangeFuncLeaves
import Derived.TacticsIn
import Derived.OrdersIn
open Go.Proofs.Tryz
set_option maxRecDepth 100000
open Go Go.Sl Go.MapKept Go.RowKit
open Go.Proofs.YtihngncbioofnaaGreatDoor
variable {w0 w:World}{R F:List aG}{v sv:Value}{p B n c gn d N:Nat}{k:aj.Bs}{m:aj.Bs->Option (Rep.dY)}{a:Option Addr}{t:Tab.Tb (Rep.dY)}
theorem yE0{p:Prop} (h:p:=by (refine Or.inl ⟨by rfl,?_⟩;((intro wq;go_simp);first|done|exact wQ))):p:=h
theorem yQ0{p:Prop} (h:p:=by rw [abn,jo];kernel_rfl):p:=h
theorem yS0{p:Prop} (h:p:=by rw [aX,Hxk.o];kernel_rfl):p:=h
theorem yX0{p:Prop} (h:p:=by rw [jo];kernel_rfl):p:=h
theorem zE0{p:Prop} (h:p:=by rw [aX,Hk.o];kernel_rfl):p:=h
namespace Go.Proofs.Y
open Go.ay
section
variable {P:Program}{ops:Array Oper}{a:Act}{dst:Option Tmp}{t ty:TypeId}{pos:String}{after:Array Edge}{x y:Operand}{vx vy:Value}{ad:Addr}{fl:Nat}{bo:BinOp}{tz:TypeId}{g:Option (Nat × Bool)}
end
end Go.Proofs.Y
set_option linter.unusedVariables false
set_option linter.unusedSimpArgs false
set_option maxHeartbeats 128000000
namespace Go.Tab
open Go.aj (Bs)
structure wz {V:Type} (t:Tb V) (s':List (Slot V)) (N:Nat):Prop where
 good:Good s'
 has:∀ k v,Has s' k v↔Has t.slots k v
 nf:kD s'=t.n
 nu:used s'=t.n
 lo:2*N<=s'.length
 lo8:8<=s'.length
 hi:s'.length=8\/s'.length<4*N
theorem wz.ok {V:Type}{t:Tb V}{s':List (Slot V)} (h:wz t s' (t.n+1)):(⟨s',t.n,0⟩:Tb V).Ok:=
 ⟨h.good,h.nf.symm,by rw [h.nu];rfl,by have:=h.lo;simp only;omega,by have:=h.hi;simp only;omega⟩
theorem wz.is {V:Type}{t:Tb V}{s':List (Slot V)}{N:Nat} (h:wz t s' N){m:Bs->Option V} (hm:t.Is m) (n g:Nat):(⟨s',n,g⟩:Tb V).Is m:=λk v=>(h.has k v).trans (hm k v)
theorem half_start {V:Type}{old:List (Slot V)}{x:Slot V}{c:Nat} (hc:∃ j,c=2^j/\3<=j) (hk:x.key.length=32) (hx:x.st=0):Half old (List.replicate c x) 0:=
 ⟨YA hc hk hx,λk v=>⟨λh=>absurd h (XI hx k v),λh=>by obtain ⟨i,y,hy,_⟩:=h;simp at hy⟩,by rw [XH hx];rfl,by rw [XJ hx];rfl⟩
end Go.Tab
namespace Go.Proofs.Y
open Go.ay
theorem Dn (A B vs:List Value) (i:Nat) (h:i+vs.length<=A.length):kS (A++B) i vs=kS A i vs++B:=by
 unfold kS;rw [aeC oQ,aoa oQ];simp only [adQ]
theorem SI {α:Type}{f:α->List Value}{k:Nat}:∀ {l:List α}{i o:Nat}{x x':α}{vs:List Value},(∀ x∈l,(f x).length=k)->l[i]?=some x->f x'=kS (f x) o vs->o+vs.length<=k->(l.set i x').flatMap f=kS (l.flatMap f) (i*k+o) vs
 |[],_,_,_,_,_,_,h,_,_=>by cases h
 |y::l,0,o,x,x',vs,hk,h,hx,ho=>by
  obtain rfl:y=x:=by simpa using h
  rw [List.set_cons_zero,ael,ael,Nat.zero_mul,ad8,hx,Dn _ _ _ _ (by rw [hk y (.head _)];exact ho)]
 |y::l,i+1,o,x,x',vs,hk,h,hx,ho=>by
  have h0:=hk y (.head _);rw [List.set_cons_succ,ael,ael,SI (λz hz=>hk z (.tail _ hz)) yP0 hx ho,show (i+1)*k+o=(f y).length+(i*k+o) by rw [h0,Nat.succ_mul];omega,yR]
theorem ane {V:Type} (enc:V->List Value) (x:Tab.Slot V) (v:V) (hk:x.key.length=32) (he:(enc v).length=(enc x.val).length):slotL enc ⟨x.st,x.key,v⟩=kS (slotL enc x) 33 (enc v):=by
 have e:slotL enc x=(.int .i64 x.st::aA x.key)++enc x.val:=rfl;have hl:(Value.int .i64 x.st::aA x.key).length=33:=by rw [aep,aX,hk]
 rw [e,show 33=(Value.int .i64 x.st::aA x.key).length+0 by rw [hl],yR];unfold kS;rw [aeO,aeu,ad8,he,apH,adV];rfl
section
variable {T sz:Nat}{xs:List Value}
theorem Rf (h:Sat w0 w (aC T sz (.slice a n c) xs::R)) (hx:0<xs.length):∃ b,a=some ⟨b,0,none⟩:=by
 rcases Sat.lC h with ⟨_,rfl,_⟩|⟨b,n',cap',cs,he,_⟩
 ·simp at hx
 ·cases he;exact ⟨b,rfl⟩
end
theorem aoD (n g l:Nat) (h:n+g<=134217728) (hl:l<=1073741824) :
  IntKind.i64.wrap ((n:Int)+(g:Int))=(n:Int)+(g:Int)/\IntKind.i64.wrap ((n:Int)+(g:Int)+1)=(n:Int)+(g:Int)+1/\IntKind.i64.wrap (4*((n:Int)+(g:Int)+1))=4*((n:Int)+(g:Int)+1)/\IntKind.i64.wrap (3*(l:Int))=3*(l:Int) /\
  wrap64 ((n:Int)+(g:Int))=(n:Int)+(g:Int)/\wrap64 ((n:Int)+(g:Int)+1)=(n:Int)+(g:Int)+1/\wrap64 (4*((n:Int)+(g:Int)+1))=4*((n:Int)+(g:Int)+1)/\wrap64 (3*(l:Int))=3*(l:Int)/\IntKind.i64.wrap ((n:Int)+1)=(n:Int)+1:=
 ⟨adr _ oQ,adr _ oQ,adr _ oQ,adr _ oQ,ahJ _ oQ,ahJ _ oQ,ahJ _ oQ,ahJ _ oQ,adr _ oQ⟩
theorem akP:sN prog 289=some [(0,1),(1,32),(33,5)]:=by kernel_rfl
theorem abk:sN prog 164=some [(0,1),(1,32),(33,3)]:=by kernel_rfl
theorem yQ {xs vs:List Value} (h:vs.length=xs.length):kS xs 0 vs=vs:=by
 unfold kS;rw [aeO,aeu,ad8,h,apH,adV]
theorem xk (cs:Array Value) (o:Nat) (vs:List Value) (h:o+vs.length<=cs.size):(eU cs o vs).toList=kS cs.toList o vs:=by
 rw [l9 _ _ _ h,adQ];rfl
theorem Rt {V:Type} (enc:V->List Value) (z:Tab.Slot V) (k:aj.Bs) (v:V) (hz:z.key.length=32) (hk:k.length=32) (he:(enc v).length=(enc z.val).length) (n:Nat) (hn:(enc z.val).length=n) :
  Gh [(0,1),(1,32),(33,n)] (slotL enc z).toArray [(0,.int .i64 1),(1,.agg (aA k).toArray),(2,.agg (enc v).toArray)]=(slotL enc ⟨1,k,v⟩).toArray:=by
 have hzl:(slotL enc z).length=33+n:=by rw [lS enc z hz _ hn]
 show eU (eU (eU (slotL enc z).toArray 0 [.int .i64 1]) 1 (aA k)) 33 (enc v)=_;apply ql;rw [xk _ _ _ (by rw [kW,kW,abn,hzl];omega),xk _ _ _ (by rw [kW,abn,hzl,aX,hk];omega),xk _ _ _ (by rw [abn,hzl,aer];omega)];have e:slotL enc z=[.int .i64 z.st]++(aA z.key++enc z.val):=rfl;have e1:kS (slotL enc z) 0 [.int .i64 1]=[.int .i64 1]++(aA z.key++enc z.val):=by
  rw [e,Dn _ _ _ _ (abl 1)];rfl
 have e2:kS ([Value.int .i64 1]++(aA z.key++enc z.val)) 1 (aA k)=[Value.int .i64 1]++(aA k++enc z.val):=by
  have h0:=yR [Value.int .i64 1] (aA z.key++enc z.val) (aA k) 0;have h1:kS (aA z.key++enc z.val) 0 (aA k)=aA k++enc z.val:=by
   rw [Dn _ _ _ _ (by rw [aX,aX,hk,hz];omega),yQ (by rw [aX,aX,hk,hz])]
  rw [h1]at h0;exact h0
 have e3:kS ([Value.int .i64 1]++(aA k++enc z.val)) 33 (enc v)=[Value.int .i64 1]++(aA k++enc v):=by
  have h0:=yR ([Value.int .i64 1]++aA k) (enc z.val) (enc v) 0;rw [yQ he]at h0;have hl:([Value.int .i64 1]++aA k).length+0=33:=by rw [aaL,aX,hk];rfl
  rw [hl,adQ,adQ]at h0;exact h0
 simp only [];rw [e1,e2,e3];rfl
end Go.Proofs.Y
namespace Go.Tab
open Go.aj (Bs)
theorem Je:∀ (a b:Bs),Lib.compareBytes a b<0↔a<b
 |[],[]=>by simp [Lib.compareBytes]
 |[],b::bs=>by simp [Lib.compareBytes]
 |a::l,[]=>by simp [Lib.compareBytes]
 |a::l,b::bs=>by
  rw [List.cons_lt_cons_iff,<-Je l bs];rw [show Lib.compareBytes (a::l) (b::bs)=if a<b then -1 else if b<a then 1 else Lib.compareBytes l bs from rfl];by_cases h1:a<b
  ·simp [h1]
  ·rw [abj h1];by_cases h2:b<a
   ·rw [acg h2];constructor
    ·intro h;exact absurd h aN
    ·rintro (h|⟨rfl,_⟩)
     ·exact absurd h h1
     ·exact absurd h2 h1
   ·rw [abj h2];have:a=b:=by
     have h3:¬ a.toNat<b.toNat:=λh=>h1 (UInt8.lt_iff_toNat_lt.2 h);have h4:¬ b.toNat<a.toNat:=λh=>h2 (UInt8.lt_iff_toNat_lt.2 h);exact UInt8.toNat_inj.1 oQ
    subst this;constructor
    ·intro h;exact .inr ⟨rfl,h⟩
    ·rintro (h|⟨_,h⟩)
     ·exact absurd h h1
     ·exact h
end Go.Tab
namespace Go.Proofs.Y
open Go.ay
theorem zS (b o j:Nat):(⟨b,o,none⟩:Addr).add j=⟨b,o+j,none⟩:=by unfold Addr.add;split <;> simp_all
section
variable {bv av:Value}
theorem acs {l:aj.Bs} (h:bF 1 v (aA l) w):(Extern.Bytes.bytesOf v).run prog w=.ok ⟨l.toArray⟩ w:=by
 obtain ⟨a,n,c,rfl,hl,hx⟩:=h;rw [aX,aes]at hl;subst hl;cases a with
 |none=>
  obtain rfl:l=[]:=by
   cases l with
   |nil=>rfl
   |cons d l=>obtain ⟨b,hb,_⟩:=hx 0 _ rfl;cases hb
  rfl
 |some ad=>
  have:=Lib.run_loadBytesX (P:=prog) w (l.map λc=>(c.toNat:Int)) ad .empty (λj x hj=>by
   rw [adW]at hj;obtain ⟨c',hc',rfl⟩:=aip.1 hj;have hy:(aA l)[j]?=some (.int .u8 c'.toNat):=by unfold aA;rw [adW,hc'];rfl
   obtain ⟨b,hb,hc⟩:=hx _ _ hy;cases hb;exact hc)
  rw [aa4]at this;simp only [Extern.Bytes.bytesOf,this];have e:Lib.bytesOf (l.map λc=>(c.toNat:Int))=l:=by
   unfold Lib.bytesOf;rw [aeW]
   conv=>rhs;rw [<-List.map_id l]
   exact akU λc _=>by simp
  rw [e];show Result.ok ({ data:=(#[]:Array UInt8)++l.toArray }:ByteArray) w=_;rw [Array.empty_append]
theorem ama {x y:aj.Bs} (h1:bF 1 av (aA x) w) (h2:bF 1 bv (aA y) w):(Extern.BytealgCompare.compare #[av,bv]).run prog w=.ok (.int .i64 (Lib.compareBytes x y)) w:=by
 change Sem.run prog (do pure (goInt (Extern.BytealgCompare.cmp (<-Extern.Bytes.bytesOf av) (<-Extern.Bytes.bytesOf bv)))) w=_;simp only [ad1,aek,acs h1,acs h2,Result.andThen];rw [Lib.cmp_eq]
 rfl
theorem WH (x y:aj.Bs) (h1:bF 1 av (aA x) w) (h2:bF 1 bv (aA y) w) :
  Calls prog 182 #[av,bv] w λe w'=>e=.returned (.int .i64 (Lib.compareBytes x y))/\w'=w:=by
 have hr:=ama h1 h2;generalize Lib.compareBytes x y=r at *
 clear h1 h2;go_enter func182,ntmps182;go_wp2;rw [run_callFunc_extern func213 au au au (e:=Extern.BytealgCompare.compare) au,hr];simp only [Result.andThen];rw [Oper.upon_value];go_wp2;go_ret;exact ⟨rfl,rfl⟩
end
open Go Go.Sl Go.ay Go.MapKept Go.RowKit Go.Sort
section
variable {α:Type} [Inhabited α] {enc:α->List Value}{k:Nat}
theorem ahu (hk:∀ x,(enc x).length=k) (h0:0<k) (d:Array α):(flatK enc k d).toList=d.toList.flatMap enc:=by
 have hl:(d.toList.flatMap enc).length=k*d.toList.length:=jy λx _=>hk x;refine List.ext_getElem (by rw [hl,ad4,size_flatK,ad4,aiv]) λt h1 h2=>?_;have ht:t<d.size*k:=by rw [ad4,size_flatK]at h1;exact h1
 have hi:t/k<d.size:=Nat.div_lt_of_lt_mul (by rw [aiv];exact ht);have hx:d.toList[t/k]?=some d[t/k]! := by
  rw [ajw,ajI hi,getElem!_pos d _ hi]
 have hm:t%k<(enc d[t/k]!).length:=by rw [hk];exact ao0 _ h0
 have hr:=KT (l:=d.toList) (f:=enc) (k:=k) (λx _=>hk x) hx (aay hm);rw [show t/k*k+t%k=t by rw [aiv];exact Nat.div_add_mod t k,aay h2]at hr;rw [ai2 hr,Array.getElem_toList,<-getElem!_pos (flatK enc k d) t (by rw [size_flatK];exact ht),get_flatK _ _ _ _ ht];exact getElem!_pos (enc d[t/k]!) (t%k) hm
end
section
variable {g m:Nat}{T:TypeId}{cs:Array Value}{os:Array Obj}
theorem aik {fr:Nat×Nat} (d:Array Value) (hb:w.heap[g]?=some (.cells cs T fr)):(grow (putRow id (Sort.ahead w n) g 0 d) os).heap[g]?=some (.cells (putCells id 0 d cs) T fr):=by
 have hg:g<w.heap.size:=(amF.1 hb).1;rw [heap_grow_old _ _ (by simpa using hg)];simp [putRow,mapBlock,Sort.ahead,ajU,hb,onCells]
theorem ah2 (d:Array Value):w.grownBy (grow (putRow id (Sort.ahead w n) g 0 d) os) (some g):=by
 refine ⟨rfl,rfl,rfl,by simp,λk hk hne=>?_⟩;rw [heap_grow_old _ _ (by simpa using hk)];have:g≠k:=λe=>hne (by rw [e]);simp [putRow,mapBlock,Sort.ahead,ajU,this]
theorem anT (d:Array Value) (h:d.size<=cs.size):(putCells id 0 d cs).toList.take d.size=d.toList:=by
 apply apu;intro j;by_cases hj:j<d.size
 ·rw [apC hj,ajw];simp [putCells,hj,show j<cs.size by omega]
 ·rw [List.getElem?_take_eq_none oQ,aiH yW0]
theorem amK (hp:Sat w0 w (pt g (.cells cs T (0,0))::R)) (d:Array Value):Sat w0 (grow (putRow id (Sort.ahead w n) g 0 d) os) (pt g (.cells (putCells id 0 d cs) T (0,0))::R):=by
 have hg:=ah2 (w:=w) (g:=g) (n:=n) (os:=os) d;exact hp.turn hg.os hg.tape hg.output hg.size (aik (n:=n) (os:=os) d hp.at) (λi hi hlt=>hg.block i hlt (by simpa using hi))
theorem aix {d:Array Value} (hb:w.heap[g]?=some (.cells cs T (0,0))) (ht:cs.toList.take d.size=d.toList):Holds id w g 0 d:=by
 intro j hj;refine ⟨?_,by simp [World.frozen?,hb]⟩;have h1:(cs.toList.take d.size)[j]?=d.toList[j]?:=by rw [ht]
 rw [apC hj]at h1;simp only [World.cell?,hb,ad8];simp only [Option.isSome_none,afX,apA];rw [<-ajw,h1,ajw,ajI hj,getElem!_pos d j hj]
 rfl
end
end Go.Proofs.Y
namespace Go.Tab
open Go.aj (Bs)
open Go.Sort
theorem anD {V:Type} (key:V->Bs):SWO (Go.Proofs.ltOf λx y=>Lib.compareBytes (key x) (key y)):=by
 have e:∀ x y,Go.Proofs.ltOf (λx y=>Lib.compareBytes (key x) (key y)) x y=decide (key x<key y):=λx y=>by
  unfold Go.Proofs.ltOf;rw [aol,adY,adY];exact Je _ _
 refine ⟨λx=>?_,λx y z=>?_,λx y z=>?_⟩
 ·rw [e,ae1];exact apL _
 ·rw [e,e,e,adY,adY,adY];exact aqk
 ·rw [e,e,e,ae1,ae1,ae1];intro h1 h2 h3;rcases Ja (key x) (key y) with q|q|q
  ·exact h1 q
  ·exact h2 (q ▸ h3)
  ·rcases Ja (key y) (key z) with p|p|p
   ·exact h2 p
   ·exact apL _ (aqk q (p ▸ h3))
   ·exact apL _ (aqk (aqk h3 p) q)
theorem anl {V:Type} [Inhabited V] {key:V->Bs}{d d':Array V} (hp:PermIn 0 d.size d d') (hs:SortedIn (Go.Proofs.ltOf λx y=>Lib.compareBytes (key x) (key y)) 0 d.size d') :
  d'.toList.Perm d.toList/\d'.toList.Pairwise λa b=>¬ key b<key a:=by
 obtain ⟨h1,_,h3⟩:=hp;constructor
 ·have e:∀ a:Array V,a.extract 0 a.size=a:=λa=>by simp
  have h3':=h3;rw [e d,<-h1,e d']at h3';exact h3'
 ·rw [aoj];intro i j hi hj hij;rw [ad4]at hi hj;have:=hs i j (aea _) hij oQ;rw [getElem!_pos d' i hi,getElem!_pos d' j hj]at this;unfold Go.Proofs.ltOf at this;rw [ae1,Je]at this;simpa using this
theorem Qu {V:Type}{s l:List (Slot V)}{m:Bs->Option V} (g:Good s) (hm:∀ k v,Has s k v↔m k=some v) (hp:l.Perm (s.filter λx=>decide (x.st=1))) (hs:l.Pairwise λa b=>¬ b.key<a.key) :
  Lists m (l.map λx=>(x.key,x.val))/\∀ x∈l,x.st=1/\x.key.length=32:=by
 have hmem:∀ x,x∈l↔x∈s/\x.st=1:=λx=>by rw [hp.mem_iff,aem,adY]
 have hnd:l.Pairwise λa b=>a.key≠b.key:=by
  have h0:(s.filter λx=>decide (x.st=1)).Pairwise λa b=>a.key≠b.key:=by
   rw [List.pairwise_filter,aoj];intro i j hi hj hij h1 h2 h3;have:=g.one (aay hi) (aay hj) (by simpa using h1) (by simpa using h2) h3;omega
  exact (hp.pairwise_iff (λ{a b} h=>Ne.symm h)).2 h0
 refine ⟨⟨?_,λk v=>?_⟩,λx hx=>⟨((hmem x).1 hx).2,g.key x ((hmem x).1 hx).1⟩⟩
 ·rw [ajM];refine (hs.and hnd).imp λ{a b} h=>?_;rcases Ja a.key b.key with q|q|q
  ·exact q
  ·exact absurd q h.2
  ·exact absurd q h.1
 ·rw [<-hm,abL];constructor
  ·rintro ⟨x,hx,e⟩;obtain ⟨a,b⟩:=(hmem x).1 hx;obtain ⟨i,hi,he⟩:=aoY a;cases e;exact ⟨i,x,by rw [aay hi,he],b,rfl,rfl⟩
  ·rintro ⟨i,x,hi,a,rfl,rfl⟩;exact ⟨x,(hmem x).2 ⟨abA hi,a⟩,rfl⟩
end Go.Tab
namespace Go.Proofs.Y
open Go.ay
section
variable {s:List (Tab.Slot (Rep.dY))}
theorem Q8 (hl:0<s.length) (h:Sat w0 w (iI p 250 (.slice a s.length c) n gn::F)) :
  Calls prog 189 #[ptr p] w (aP λv w'=>v=.bool true/\w=w'):=by
 have e0:w.cell? ⟨p,0,none⟩=some (.slice a s.length c):=h.cellAt 0 _ rfl;have c1:(0:Int)<(s.length:Int):=oQ;go_enter func189,ntmps189;go_wp2;go_ret;exact ⟨_,rfl,rfl,rfl⟩
theorem Qz {p : Prop} (h : p := by
 have Hk:=uQ hk;have HG:=uQ g;have HE:=uQ he;have Hc:=uQ hc;have Hlen:=uQ (show ∀ x∈s,(slotL dU x).length=dX from λx hx=>lS dU x (g.key x hx) iE (zh _));obtain ⟨la,lc,rfl⟩:=jK Hlen.o (Sat.rd (h.pick bf)) aN;obtain ⟨j,hj,_⟩:=g.pow;have Y6:j<40:=by
  rcases akJ j 40 with q|q
  ·exact q
  ·have:2^40<=2^j:=ao7 aN q;have Jy:(2:Nat)^40=1099511627776:=by decide
   ((try simp only [dX,iE,iG,gY] at *);omega)
 have Hj:=uQ hj;have Vd:=uQ Y6;have Hd:=uQ (show d<s.length from he.lt);have hp0:0<s.length:=g.nY;have lV:=uQ hp0;have Hpz:=uQ (Tab.akY (k:=k) hp0);clear hj Y6 hk g he hc hp0;go_enter Uh,Uk;go_wp2_with ((with_reducible refine fD ⟨?_⟩);refine fE aQ ak ak ?_;intro bB wB hB);have hB1:=hB.drew;clear hB;refine dN [6,7] (λw'=>w'.rangeAt bB 0 (aA k)/\w'.cell? ⟨p,0,none⟩=some (.slice la s.length lc)) au ?_;have hG:World.rangeAt _ bB 0 (aA k)/\World.cell? _ ⟨p,0,none⟩=some (.slice la s.length lc):=⟨yP (hB1.pk (A:=pt bB (.cells (aA k).toArray 50 (0,0)))),hB1.cellP bJ 0 rfl⟩;refine gK 0 ak au bV (jh (b:=bB) (o:=0) (aA k) ah underlying50 rfl zE0 (λw hw=>hw.1)) aQ gQ ?_;refine rP 1 ?_ (y:=aZ);refine rP 2 ?_ (y:=dW);refine rP 3 ?_ (y:=bY);refine rt 4 (h:=?_);refine rP 5 ?_ (y:=(qU ak dw));clear hG;have hh:=aiy k Hk.o j Vd.o hB1;rw [<-Hj.o]at hh
 refine bW 6 ak au (λK hK=>?_)
 (refine iC au ak ak ?_)
 refine hh.mono ?_;rintro ee w2 ⟨v,rfl,rfl,hS2⟩;refine hK _ _ (.inl rfl) ?_;clear hK hh hB1;refine rP 7 ?_ (y:=iy);refine dH au ?_
 try simp only [kP]
 try go_frame
 rw [<-Hpz.o];go_wp2_with fail
 go_loopg [7,8] d (λg aq sq wr=>∃ e:Nat,g=d-e/\e<=d/\aq=.int .i64 (Tab.pos k s.length e:Nat)/\sq=.int .i64 ((e:Int)+1) /\
  Sat w0 wr (pt bB (.cells (aA k).toArray 50 (0,0))::iI p iG (.slice la s.length lc) n gn::aC gY dX (.slice la s.length lc) (s.flatMap (slotL dU))::F))
 case atStart=>exact ⟨0,rfl,aea _,rfl,rfl,hS2.sb⟩
 case round=>
  obtain ⟨e,rfl,hed,rfl,rfl,hS⟩:=hrel;clear hS2;have hlt:=Tab.uz (k:=k) (d:=e) lV.o;have hdl:=Hd.o;have hcl:=Hc.o;obtain ⟨x,hx⟩:∃ x,s[Tab.pos k s.length e]?=some x:=⟨_,aay hlt⟩;have hxm:=abA hx;have hst:=HG.o.st x hxm;have Hxk:=uQ (HG.o.key x hxm);obtain ⟨bk,off,c',hsv,hcell⟩:=jd Hlen.o (Sat.rd (hS.pick eH)) hx aN;have Ep:=uQ (Tab.akX (k:=k) (d:=e) lV.o);have Vp:=uQ (VZ (Tab.pos k s.length e+1) j oQ (by have:=Vd.o;((try simp only [dX,iE,iG,gY] at *);omega)))
  have xP:=uQ (show e=d↔x.stop k from ⟨λh=>by
    subst h;obtain ⟨y,hy,hs⟩:=HE.o.here;rw [hx]at hy;cases hy;exact hs,λh=>by
    rcases akJ e d with q|q
    ·exact absurd ⟨x,hx,h⟩ (HE.o.no e q)
    ·((try simp only [dX,iE,iG,gY] at *);omega)⟩)
  have Hx:=uQ hx;cases hsv;have c0:(0:Int)<=((Tab.pos k s.length e:Nat):Int):=oQ;have c1:((Tab.pos k s.length e:Nat):Int)<(s.length:Int):=oQ;have c2:Tab.pos k s.length e<s.length:=hlt;have e0:wr.cell? ⟨p,0,none⟩=some (.slice (some ⟨bk,off,none⟩) s.length lc):=hS.cellP bJ 0 rfl;have jo:=Hlen.o x hxm;clear hx hxm;have hq:bits .and .i64 (((Tab.pos k s.length e:Nat):Int)+1) ((s.length:Int)-1)=((Tab.pos k s.length (e+1):Nat):Int):=by
   have h1:=Vp.o;rw [<-Hj.o,Ep.o]at h1;rw [<-h1]
   congr 1
   have:=lV.o
   ((try simp only [dX,iE,iG,gY] at *);omega)
  have hw1:IntKind.i64.wrap (((Tab.pos k s.length e:Nat):Int)+1)=((Tab.pos k s.length e:Nat):Int)+1:=adr _ oQ;have hw2:IntKind.i64.wrap ((s.length:Int)-1)=(s.length:Int)-1:=adr _ oQ;have hw3:IntKind.i64.wrap ((e:Int)+1+1)=(e:Int)+1+1:=adr _ oQ;clear hdl hcl;generalize hP1:Tab.pos k s.length (e+1)=P1 at hq;have UQ:=uQ hP1;generalize hP:Tab.pos k s.length e=P0 at *
  have HP:=uQ hP;clear hP1 hP hlt Vp Ep;have U5:=uQ hed;clear hed;go_wp2_with (with_reducible apply bP);refine ⟨fZ hS ah bJ bI ak au ?_⟩;go_wp2_with (with_reducible apply bP);refine ⟨iR (b:=bk) (o:=off+P0*dX) (slotL dU x) ah hcell GI rfl yX0 ?_⟩;go_wp2_with (with_reducible apply fB);refine ⟨eF GK hS rfl ?_⟩;intro b9 w9 jW;go_wp2_with (first|((with_reducible refine dh ⟨?_⟩);refine fP (slotL dU x).toArray jW ah ah (by rw [abn,jo];rfl) cZ yQ0 (by rw [ad6];exact rM dU x (Gz _)) ?_;intro w10 fK)|(with_reducible apply bP));refine ⟨?_⟩;clear hS jW hcell e0;have f0:w10.cell? ⟨b9,0,none⟩=some (.int .i64 x.st):=fK.cellP aU 0 (by rw [ace];rfl);have f1:w10.rangeAt b9 1 (aA x.key):=DJ (fK.pick aU);have f2:w10.cell? ⟨p,0,none⟩=some (.slice (some ⟨bk,off,none⟩) s.length lc):=fK.cellP bJ 0 rfl
  have hend:Sat w0 w10 (pt bB (.cells (aA k).toArray 50 (0,0))::iI p iG (.slice (some ⟨bk,off,none⟩) s.length lc) n gn::aC gY dX (.slice (some ⟨bk,off,none⟩) s.length lc) (s.flatMap (slotL dU))::F):=fK.sb;have h3:x.st=0\/x.st=1\/x.st=2:=oQ;rcases h3 with h3|h3|h3
  ·have h4:e=d:=xP.o.2 (.inl h3);rw [h3]at f0;have Hdx:=uQ (show decide (x.st=1)=false by rw [h3];rfl);have nD:=uQ (show (x.st:Int)=0 by rw [h3];rfl);clear xP hst h3 f1 f2 hq hw1 hw2 hw3 c0 c1 c2;subst h4;go_wp2_with fail;have tV:=fK.drew;clear fK;refine dN [4,7] (λw'=>w'.cell? ⟨b9,0,none⟩=some (.int .i64 0)) au ?_;have hG:World.cell? _ ⟨b9,0,none⟩=some (.int .i64 0):=tV.cellP aU 0 (by rw [ace,<-nD.o];rfl);clear f0;refine rP 0 ?_ (y:=aZ);refine rP 1 ?_ (y:=aZ);refine rP 2 ?_ (y:=bY);refine rt 3 (h:=?_);refine rP 4 ?_ (y:=jH);refine rP 5 ?_ (y:=iy);refine rP 6 ?_ (y:=iy);refine rP 7 ?_ (y:=iy);refine dH au ?_;clear hG
   try simp only [kP]
   try go_frame
   go_wp2_with fail
   go_ret3
   exact ⟨_,rfl,x,by rw [HP.o];exact Hx.o,by rw [HP.o,Hdx.o];rfl,tV.sb⟩
  ·have f3:w10.rangeAt bB 0 (aA k):=yP (fK.pk (A:=pt bB (.cells (aA k).toArray 50 (0,0))));have hkk:=XV x.key k Hxk.o Hk.o;rw [h3]at f0;by_cases hxk:x.key=k
   ·have h4:e=d:=xP.o.2 (.inr ⟨h3,hxk⟩);have Hdx:=uQ (show decide (x.st=1)=true by rw [h3];rfl);have nD:=uQ (show (x.st:Int)=1 by rw [h3];rfl);rw [aeb hxk]at hkk;clear xP hst h3 hxk hq hw1 hw2 hw3 c0 c1 c2 f2;subst h4
    go_wp2_with (first
     |((with_reducible refine I7 ⟨?_⟩);refine Md (o:=1) ah ah (aA x.key) _ f1 underlying50 rfl yS0 ?_)
     |((with_reducible refine I7 ⟨?_⟩);refine Md (o:=0) ah ah (aA k) _ f3 underlying50 rfl zE0 ?_))
    clear hkk f1 f3;have tV:=fK.drew;clear fK;refine dN [4,7] (λw'=>w'.cell? ⟨b9,0,none⟩=some (.int .i64 1)) au ?_;have hG:World.cell? _ ⟨b9,0,none⟩=some (.int .i64 1):=tV.cellP aU 0 (by rw [ace,<-nD.o];rfl);clear f0;refine rP 0 ?_ (y:=aZ);refine rP 1 ?_ (y:=aZ);refine rP 2 ?_ (y:=bY);refine rt 3 (h:=?_);refine rP 4 ?_ (y:=jH);refine rP 5 ?_ (y:=iy);refine rP 6 ?_ (y:=iy);refine rP 7 ?_ (y:=iy);refine dH au ?_;clear hG
    try simp only [kP]
    try go_frame
    go_wp2_with fail
    go_ret3
    exact ⟨_,rfl,x,by rw [HP.o];exact Hx.o,by rw [HP.o,Hdx.o];rfl,tV.sb⟩
   ·have h4:e<d:=by
     have:=U5.o;rcases akJ e d with q|q
     ·exact q
     ·exact absurd (xP.o.1 oQ) (λh=>h.elim (λh=>by ((try simp only [dX,iE,iG,gY] at *);omega)) λh=>hxk h.2)
    rw [ad2 hxk]at hkk;have H4:=uQ h4;clear xP hst h3 hxk h4
    go_wp2_with (first
     |((with_reducible refine I7 ⟨?_⟩);refine Md (o:=1) ah ah (aA x.key) _ f1 underlying50 rfl yS0 ?_)
     |((with_reducible refine I7 ⟨?_⟩);refine Md (o:=0) ah ah (aA k) _ f3 underlying50 rfl zE0 ?_))
    go_roundg (d-(e+1))
    case measure=>have:=H4.o;((try simp only [dX,iE,iG,gY] at *);omega)
    case rel=>exact ⟨e+1,rfl,H4.o,by rw [UQ.o],by first|rfl|go_num,fK.sb⟩
  ·have h4:e<d:=by
    have:=U5.o;rcases akJ e d with q|q
    ·exact q
    ·exact absurd (xP.o.1 oQ) (λh=>h.elim (λh=>by ((try simp only [dX,iE,iG,gY] at *);omega)) λh=>by ((try simp only [dX,iE,iG,gY] at *);omega))
   rw [h3]at f0;have H4:=uQ h4;clear xP hst h3 f1 h4;go_wp2_with fail
   go_roundg (d-(e+1))
   case measure=>have:=H4.o;((try simp only [dX,iE,iG,gY] at *);omega)
   case rel=>exact ⟨e+1,rfl,H4.o,by rw [UQ.o],by first|rfl|go_num,fK.sb⟩) : p := h
abbrev fH.dU:=@fM
abbrev fH.dX:Nat:=38
abbrev fH.iE:Nat:=5
theorem fH.zh:type_of% @EH:=@EH
theorem fH.Uh:type_of% @func190:=@func190
theorem fH.Uk:type_of% @ntmps190:=@ntmps190
abbrev fH.iG:Nat:=250
abbrev fH.gY:Nat:=289
theorem fH.GI:type_of% @underlying289:=@underlying289
theorem fH.GK:type_of% @BF:=@BF
theorem fH.Gz:type_of% @BQ:=@BQ
open fH in
theorem X8 (g:Tab.Good s) (hc:s.length<=1073741824) (hk:k.length=32) (he:Tab.Ends s k d) (h:Sat w0 w (iI p 250 sv n gn::aC 289 38 sv (s.flatMap (slotL fM))::F)) :
  Calls prog 190 #[ptr p,.agg (aA k).toArray] w (aP λv w'=>∃ x,s[Tab.pos k s.length d]?=some x/\v=.tuple #[.int .i64 (Tab.pos k s.length d:Nat),.int .i64 ((d:Int)+1),.bool (decide (x.st=1))] /\
   Sat w0 w' (iI p 250 sv n gn::aC 289 38 sv (s.flatMap (slotL fM))::F)):=Qz
end
section
variable {s:List (Tab.Slot (Seg.aV))}
theorem Dh (hl:0<s.length) (h:Sat w0 w (iI p 166 (.slice a s.length c) n gn::F)) :
  Calls prog 86 #[ptr p] w (aP λv w'=>v=.bool true/\w=w'):=by
 have e0:w.cell? ⟨p,0,none⟩=some (.slice a s.length c):=h.cellAt 0 _ rfl;have c1:(0:Int)<(s.length:Int):=oQ;go_enter func86,ntmps86;go_wp2;go_ret;exact ⟨_,rfl,rfl,rfl⟩
abbrev fJ.dU:=@aW
abbrev fJ.dX:Nat:=36
abbrev fJ.iE:Nat:=3
theorem fJ.zh:type_of% @wY:=@wY
theorem fJ.Uh:type_of% @func146:=@func146
theorem fJ.Uk:type_of% @ntmps146:=@ntmps146
abbrev fJ.iG:Nat:=166
abbrev fJ.gY:Nat:=164
theorem fJ.GI:type_of% @underlying164:=@underlying164
theorem fJ.GK:type_of% @xC:=@xC
theorem fJ.Gz:type_of% @yO:=@yO
open fJ in
theorem O1 (g:Tab.Good s) (hc:s.length<=1073741824) (hk:k.length=32) (he:Tab.Ends s k d) (h:Sat w0 w (iI p 166 sv n gn::aC 164 36 sv (s.flatMap (slotL aW))::F)) :
  Calls prog 146 #[ptr p,.agg (aA k).toArray] w (aP λv w'=>∃ x,s[Tab.pos k s.length d]?=some x/\v=.tuple #[.int .i64 (Tab.pos k s.length d:Nat),.int .i64 ((d:Int)+1),.bool (decide (x.st=1))] /\
   Sat w0 w' (iI p 166 sv n gn::aC 164 36 sv (s.flatMap (slotL aW))::F)):=Qz
end
def gJ (p:Nat) (m:aj.Bs->Option (Rep.dY)) (B:Nat):aG:=λh=>∃ (t:Tab.Tb (Rep.dY)) (sv:Value),(t.Ok/\t.Is m/\t.n+t.gone<=B)/\stars [iI p 250 sv t.n t.gone,aC 289 38 sv (t.slots.flatMap (slotL fM))] h
theorem G7:jF prog 191=some (.agg (fM ⟨0,Seg.aV.zero,0⟩).toArray):=by kernel_rfl
theorem gJ.open (h:Sat w0 w (gJ p m B::F)):∃ (t:Tab.Tb (Rep.dY)) (sv:Value),(t.Ok/\t.Is m/\t.n+t.gone<=B)/\Sat w0 w (iI p 250 sv t.n t.gone::aC 289 38 sv (t.slots.flatMap (slotL fM))::F):=by
 obtain ⟨ha,x,hx,q,r,dd,rfl,⟨t,sv,hin,hp⟩,hq⟩:=h;refine ⟨t,sv,hin,ha,_,hx,?_⟩;show stars ([iI p 250 sv t.n t.gone,aC 289 38 sv (t.slots.flatMap (slotL fM))]++F) _;rw [qO];exact ⟨q,r,dd,rfl,hp,hq⟩
theorem gJ.shut (h1:t.Ok) (h2:t.Is m) (h3:t.n+t.gone<=B) (h:Sat w0 w (iI p 250 sv t.n t.gone::aC 289 38 sv (t.slots.flatMap (slotL fM))::F)):Sat w0 w (gJ p m B::F):=
 Sat.join (M:=[iI p 250 sv t.n t.gone,aC 289 38 sv (t.slots.flatMap (slotL fM))]) h λ_ hx=>⟨t,sv,⟨h1,h2,h3⟩,hx⟩
theorem aj2 (h:Sat w0 w F):Calls prog 113 #[] w (aP λv w'=>∃ p,v=ptr p/\Sat w0 w' (gJ p (λ_=>none) 0::F)):=by
 go_enter func113,ntmps113
 go_wp2_with (first
  |((with_reducible refine at_make ⟨?_⟩);refine Me (e:=289) (sz:=38) (eX:=80) (n:=8) au BF h ah ah aN aN ?_;intro bM wM hM)
  |((with_reducible refine fD ⟨?_⟩);refine fE hM ak ak ?_;intro bB wB hB))
 go_ret;refine ⟨_,rfl,bB,rfl,?_⟩;have e:(List.replicate 8 (slotL fM ⟨0,aj.zero32,xF⟩)).flatten=(List.replicate 8 (⟨0,aj.zero32,xF⟩:Tab.Slot (Rep.dY))).flatMap (slotL fM):=(KU 8 _).symm;rw [e]at hB;exact gJ.shut (t:=⟨List.replicate 8 ⟨0,aj.zero32,xF⟩,0,0⟩) (Tab.QN aN rfl) (Tab.QM rfl 0 0) (abl 0) hB
theorem QA {p : Prop} (h : p := by
 obtain ⟨t,sv,⟨ok,is,hb⟩,hR⟩:=LV h;obtain ⟨d,he⟩:=ok.ends k;have hsz:t.slots.length<=1073741824:=by have:=ok.size;((try simp only [dX,lU,iE,iG,gY] at *);omega)
 have Hlen:=uQ (show ∀ x∈t.slots,(slotL dU x).length=dX from λx hx=>lS dU x (ok.good.key x hx) iE (zh _));obtain ⟨la,lc,rfl⟩:=jK Hlen.o (Sat.rd (hR.pick bf)) aN;have Hk:=uQ hk;have dB:=uQ ok;have lF:=uQ is;have Hb:=uQ hb;have He:=uQ he;have iZ:=uQ hsz;have lV:=uQ ok.good.nY;clear h hk ok is hb he hsz hB;go_enter TW,TY;go_wp2_with (first|((with_reducible refine fD ⟨?_⟩);refine fE aQ ak ak ?_;intro bB wB hB)|(with_reducible apply fB));refine ⟨eF LX hB rfl ?_⟩;intro b4 w4 hS4;go_wp2_with (with_reducible apply fB);refine ⟨eF LX hS4 rfl ?_⟩;intro b6 w6 hS6;have JD:Sat w0 w6 (iI p iG (.slice la t.slots.length lc) t.n t.gone::pt b6 (.cells (dU uI).toArray lU (0,0))::pt b4 (.cells (dU uI).toArray lU (0,0))::pt bB (.cells (aA k).toArray 50 (0,0))::aC gY dX (.slice la t.slots.length lc) (t.slots.flatMap (slotL dU))::F):=hS6.sb;clear hB hS4 hS6 hR;go_wp2_with fail
 refine (LY lV.o JD).mono ?_;rintro ee w7 ⟨v,rfl,rfl,rfl⟩;go_wp2_with ((with_reducible refine bP ⟨?_⟩);refine iQ JD ah (aS (aS (aS aU))) underlying50 rfl (by rw [abn,aX,Hk.o];kernel_rfl) ?_);have hf:=DU dB.o.good iZ.o Hk.o He.o (JD.sb:Sat w0 w6 (iI p iG (.slice la t.slots.length lc) t.n t.gone::aC gY dX (.slice la t.slots.length lc) (t.slots.flatMap (slotL dU))::pt b6 (.cells (dU uI).toArray lU (0,0))::pt b4 (.cells (dU uI).toArray lU (0,0))::F));clear JD;refine hf.mono ?_;rintro ee w8 ⟨v,rfl,x,hx,rfl,mO⟩;clear hf;obtain ⟨m1,m2⟩:=lF.o.some dB.o He.o hx;have hxm:=abA hx;have hxk:=dB.o.good.key x hxm;obtain ⟨bk,off,c',hsv,hcell⟩:=jd Hlen.o (Sat.rd (mO.pick bf)) hx aN;cases hsv;have hlt:=Tab.uz (k:=k) (d:=d) lV.o;have hval:∀ j v,(dU x.val)[j]?=some v->w8.cell? ⟨bk,off+Tab.pos k t.slots.length d*dX+33+j,none⟩=some v:=λj v hj=>by
  rw [apB _ 33 j];exact hcell (33+j) v (acT dU x hxk hj)
 clear hcell hx hxm;generalize Tab.pos k t.slots.length d=P0 at *
 have c0:(0:Int)<=(P0:Int):=oQ;have c1:(P0:Int)<(t.slots.length:Int):=oQ;have e0:w8.cell? ⟨p,0,none⟩=some (.slice (some ⟨bk,off,none⟩) t.slots.length lc):=mO.cellP bJ 0 rfl;by_cases h1:x.st=1
 ·have hd:decide (x.st=1)=true:=aeb h1;have Hm:=uQ (m1 h1);clear m1 m2 h1
  go_wp2_with (first
   |((with_reducible refine bP ⟨?_⟩);refine fZ mO ah bJ bI ak au ?_)
   |((with_reducible refine bP ⟨?_⟩);refine iR (b:=bk) (o:=off+P0*dX+33) (dU x.val) ah hval zf rfl au ?_)
   |((with_reducible refine dh ⟨?_⟩);refine fP (dU x.val).toArray mO ah ah ah (ku (ku (ku cZ))) au ah ?_;intro w10 fK))
  refine ⟨rfl,_,oW rfl fK ah bJ zf rfl au,_,rfl,?_,DV dB.o lF.o Hb.o (fK.sb)⟩;rw [Hm.o];rfl
 ·have hd:decide (x.st=1)=false:=ad2 h1;have Hm:=uQ (m2 h1);clear m1 m2 h1
  go_wp2_with (first
   |((with_reducible refine bP ⟨?_⟩);refine iQ mO ah (aS (aS (aU (A:=pt b6 (.cells (dU uI).toArray lU (0,0)))))) zf rfl au ?_)
   |((with_reducible refine dh ⟨?_⟩);refine fP (dU uI).toArray mO ah ah ah (ku (ku (ku cZ))) au ah ?_;intro w10 fK))
  refine ⟨rfl,_,oW rfl fK ah (aS (aS (aS aU))) zf rfl au,_,rfl,?_,DV dB.o lF.o Hb.o (fK.sb)⟩;rw [Hm.o];rfl) : p := h
theorem fH.LV:type_of% @gJ.open:=@gJ.open
theorem fH.TW:type_of% @func156:=@func156
theorem fH.TY:type_of% @ntmps156:=@ntmps156
theorem fH.LX:type_of% @G7:=@G7
abbrev fH.uI:=@xF
abbrev fH.lU:Nat:=191
theorem fH.LY:type_of% @Q8:=@Q8
theorem fH.DU:type_of% @X8:=@X8
theorem fH.zf:type_of% @underlying191:=@underlying191
theorem fH.DV:type_of% @gJ.shut:=@gJ.shut
open fH in
theorem ahN (hB:B<=268435000) (hk:k.length=32) (h:Sat w0 w (gJ p m B::F)) :
  Calls prog 156 #[ptr p,.agg (aA k).toArray] w (aP λv w'=>v=.tuple #[.agg (fM ((m k).getD ⟨0,Seg.aV.zero,0⟩)).toArray,.bool (m k).isSome]/\Sat w0 w' (gJ p m B::F)):=QA
theorem QB {p : Prop} (h : p := by
 have dB:=uQ ok;have HN:=uQ hN;have HNb:=uQ hNb;have Hlen:=uQ (show ∀ x∈t.slots,(slotL dU x).length=dX from λx hx=>lS dU x (ok.good.key x hx) iE (zh _));obtain ⟨la,lc,rfl⟩:=jK Hlen.o (Sat.rd (h.pick bf)) aN;have hw0:IntKind.i64.wrap (2*(N:Int))=2*(N:Int):=adr _ oQ;have apm:wrap64 (2*(N:Int))=2*(N:Int):=ahJ _ oQ;clear ok hN;go_enter Ua,Ub;go_wp2_with fail
 go_loopg [4] (4*N) (λg cq wr=>∃ c:Nat,g=4*N+8-c/\cq=.int .i64 c/\(∃ j,c=2^j/\3<=j)/\8<=c/\(c=8\/c<4*N)/\wr=w)
 case atStart=>exact ⟨8,by ((try simp only [dX,iE,og,iG,gY] at *);omega),rfl,⟨3,rfl,abl 3⟩,abl 8,.inl rfl,rfl⟩
 case round=>
  obtain ⟨c,rfl,rfl,⟨j,hj,hj3⟩,hc8,hc,rfl⟩:=hrel;by_cases hlt:c<2*N
  ·have c1:(c:Int)<2*(N:Int):=by ((try simp only [dX,iE,og,iG,gY] at *);omega)
   have hw1:IntKind.i64.wrap ((c:Int)*2)=(c:Int)*2:=adr _ oQ;have apn:wrap64 ((c:Int)*2)=(c:Int)*2:=ahJ _ oQ;have Hj:=uQ hj;have Hj3:=uQ hj3;have bT:=uQ hlt;have Ih:=uQ hc8;clear hj hj3 hlt hc hc8;go_wp2_with fail
   go_roundg (4*N+8-c*2)
   case measure=>have:=bT.o;have:=Ih.o;((try simp only [dX,iE,og,iG,gY] at *);omega)
   case rel=>exact ⟨c*2,rfl,by first|rfl|go_num,⟨j+1,by rw [Nat.pow_succ,Hj.o],by have:=Hj3.o;((try simp only [dX,iE,og,iG,gY] at *);omega)⟩,by have:=Ih.o;((try simp only [dX,iE,og,iG,gY] at *);omega),.inr (by have:=bT.o;((try simp only [dX,iE,og,iG,gY] at *);omega)),rfl⟩
  ·have c1:¬ (c:Int)<2*(N:Int):=by ((try simp only [dX,iE,og,iG,gY] at *);omega)
   have HC:=uQ (show (∃ j,c=2^j/\3<=j)/\2*N<=c/\8<=c/\(c=8\/c<4*N) from ⟨⟨j,hj,hj3⟩,by ((try simp only [dX,iE,og,iG,gY] at *);omega),hc8,hc⟩);have hcb:c<=1073741824:=oQ;have MX:=uQ hcb;clear hj hj3 hlt hc hc8 hw0 hcb hNb
   go_wp2_with (first
    |((with_reducible refine bP ⟨?_⟩);refine fZ h ah bJ bI ak au ?_)
    |((with_reducible refine at_make ⟨?_⟩);refine Me (e:=gY) (sz:=dX) (eX:=og) (n:=c) au GK h ah ah (by have:=MX.o;((try simp only [dX,iE,og,iG,gY] at *);omega)) (by have:=MX.o;((try simp only [dX,iE,og,iG,gY] at *);omega)) ?_;intro bM wM hM)
    |((with_reducible refine dh ⟨?_⟩);refine gq aQ ah ak pQ fV bI au ah ?_;intro wS hS))
   have e8:(List.replicate c (slotL dU ⟨0,aj.zero32,uI⟩)).flatten=(List.replicate c (⟨0,aj.zero32,uI⟩:Tab.Slot (qp))).flatMap (slotL dU):=(KU c _).symm;rw [e8]at hS;have hS0:Sat w0 _ (iI p iG (.slice (some ⟨bM,0,none⟩) c c) t.n 0::aC gY dX (.slice (some ⟨bM,0,none⟩) c c) ((List.replicate c (⟨0,aj.zero32,uI⟩:Tab.Slot (qp))).flatMap (slotL dU))::aC gY dX (.slice la t.slots.length lc) (t.slots.flatMap (slotL dU))::F):=hS.sb;clear hS hM h e8 c1;go_wp2_with fail
   go_loopg [31] t.slots.length (λg iq wr=>∃ (i:Nat) (cur:List (Tab.Slot (qp))),g=t.slots.length-i/\i<=t.slots.length/\iq=.int .i64 i/\Tab.Half t.slots cur i/\cur.length=c /\
    Sat w0 wr (iI p iG (.slice (some ⟨bM,0,none⟩) c c) t.n 0::aC gY dX (.slice (some ⟨bM,0,none⟩) c c) (cur.flatMap (slotL dU))::aC gY dX (.slice la t.slots.length lc) (t.slots.flatMap (slotL dU))::F))
   case atStart=>exact ⟨0,_,rfl,aea _,rfl,Tab.half_start HC.o.1 aN rfl,afx,hS0⟩
   case round=>
    obtain ⟨i,cur,rfl,hi,rfl,hH,hcl,hS⟩:=hrel;clear hS0;have HH:=uQ hH;have jT:=uQ hcl;by_cases hlt:i<t.slots.length;rotate_left
    ·obtain rfl:i=t.slots.length:=by ((try simp only [dX,iE,og,iG,gY] at *);omega)
     have c1:¬ (t.slots.length:Int)<(t.slots.length:Int):=oQ;clear hlt hH hi;go_wp2_with fail
     go_end0
     obtain ⟨q1,q2,q3,q4⟩:=HH.o.done;exact ⟨_,rfl,cur,⟨q1,q2,q3.trans dB.o.n.symm,q4.trans dB.o.n.symm,by rw [jT.o];exact HC.o.2.1,by rw [jT.o];exact HC.o.2.2.1,by rw [jT.o];exact HC.o.2.2.2⟩,_,hS.sb⟩
    have c1:(i:Int)<(t.slots.length:Int):=oQ;have hwi:=CS (i:=i);obtain ⟨x,hx⟩:∃ x,t.slots[i]?=some x:=⟨_,aay hlt⟩;have hxm:=abA hx;have hst:=dB.o.good.st x hxm;have Hxk:=uQ (dB.o.good.key x hxm);obtain ⟨bk,off,c',hsv,hcell⟩:=jd Hlen.o (Sat.rd (hS.pick eH)) hx aN;cases hsv;have jo:=Hlen.o x hxm;have Hx:=uQ hx;have bT:=uQ hlt;clear hx hxm hlt hH hi
    go_wp2_with (first
     |((with_reducible refine bP ⟨?_⟩);refine iR (b:=bk) (o:=off+i*dX) (slotL dU x) ah hcell GI rfl yX0 ?_)
     |(with_reducible apply fB))
    refine ⟨eF GK hS rfl ?_⟩;intro b7 w7 hS7;go_wp2_with (first|((with_reducible refine dh ⟨?_⟩);refine fP (slotL dU x).toArray hS7 ah ah (by rw [abn,jo];rfl) cZ yQ0 (by rw [ad6];exact rM dU x (Gz _)) ?_;intro w10 fK)|(with_reducible apply bP));refine ⟨?_⟩;clear hS hS7 hcell;have f0:w10.cell? ⟨b7,0,none⟩=some (.int .i64 x.st):=fK.cellP aU 0 (by rw [ace];rfl);have f1:w10.rangeAt b7 1 (aA x.key):=DJ (fK.pick aU);by_cases h1:x.st=1;rotate_left
    ·have hst1:((x.st:Int)==1)=false:=by rw [adX];((try simp only [dX,iE,og,iG,gY] at *);omega)
     have H1:=uQ h1;clear h1 f1;go_wp2_with fail
     go_roundg (t.slots.length-(i+1))
     case measure=>have:=bT.o;((try simp only [dX,iE,og,iG,gY] at *);omega)
     case rel=>exact ⟨i+1,cur,rfl,bT.o,by first|rfl|go_num,HH.o.skip Hx.o H1.o,jT.o,fK.sb⟩
    ·have hus:Tab.used cur<cur.length:=by
      have h2:=HH.o.nu;have h3:=Tab.ahH t.slots i;have h4:=dB.o.n;have h5:=HN.o;have h6:=HC.o;rw [jT.o];((try simp only [dX,iE,og,iG,gY] at *);omega)
     obtain ⟨dd,hdd⟩:=Tab.XP (k:=x.key) HH.o.good (Tab.Yp hus);have H1:=uQ h1;have Nb:=uQ hdd;have hst1:((x.st:Int)==1)=true:=by rw [h1];rfl
     have U3:=uQ (show ∀ y∈cur,(slotL dU y).length=dX from λy hy=>lS dU y (HH.o.good.key y hy) iE (zh _));clear h1 hus hdd;go_wp2_with ((with_reducible refine bP ⟨?_⟩);refine iR (b:=b7) (o:=1) (aA x.key) ah f1 underlying50 rfl yS0 ?_);have hf:=DU HH.o.good (by rw [jT.o];exact MX.o) Hxk.o Nb.o (fK.sb:Sat w0 w10 (iI p iG (.slice (some ⟨bM,0,none⟩) c c) t.n 0::aC gY dX (.slice (some ⟨bM,0,none⟩) c c) (cur.flatMap (slotL dU))::pt b7 (.cells (slotL dU x).toArray gY (0,0))::aC gY dX (.slice (some ⟨bk,off,none⟩) t.slots.length lc) (t.slots.flatMap (slotL dU))::F));clear fK f0 f1;refine hf.mono ?_;rintro ee iH ⟨v,rfl,y,hy,rfl,tV⟩;clear hf hy;have hlt2:=Tab.uz (k:=x.key) (d:=dd) HH.o.good.nY;rw [jT.o]at hlt2;have VK:=uQ (KW (f:=slotL dU) (k:=dX) (i:=Tab.pos x.key cur.length dd) (x:=x) U3.o jo (Tab.uz HH.o.good.nY))
     have VL:=uQ (HH.o.step dB.o.good Hx.o H1.o Nb.o);rw [jT.o]at VK VL;rw [jT.o];have hrl:(cur.flatMap (slotL dU)).length=dX*c:=by rw [jy U3.o,jT.o]
     generalize Tab.pos x.key c dd=P0 at *
     have c2:(0:Int)<=(P0:Int):=oQ;have c3:(P0:Int)<(c:Int):=oQ;go_wp2_with fail;have hSd:=tV.drew;clear tV;refine dN [6,7] (λw'=>w'.cell? ⟨p,0,none⟩=some (.slice (some ⟨bM,0,none⟩) c c)/\w'.rangeAt b7 0 (slotL dU x)) au ?_;have hG:World.cell? _ ⟨p,0,none⟩=some (.slice (some ⟨bM,0,none⟩) c c)/\World.rangeAt _ b7 0 (slotL dU x):=⟨hSd.cellP bJ 0 rfl,yP (hSd.pk (A:=pt b7 (.cells (slotL dU x).toArray gY (0,0))))⟩;refine rP 0 ?_ (y:=aZ);refine rP 1 ?_ (y:=dW);refine rP 2 ?_ (y:=bY);refine rt 3 (h:=?_);refine rP 4 ?_ (y:=aZ);refine gK 5 ak au bV (jh (b:=b7) (o:=0) (slotL dU x) ah GI rfl yX0 (λw hw=>hw.2)) aQ gQ ?_;refine rP 6 ?_ (y:=jJ);clear hG;refine bW 7 ak au (λK hK=>?_);refine Jl (vs:=slotL dU x) (P0*dX) hSd ak ak rfl (ku cZ) (by rw [jo,hrl];((try simp only [dX,iE,og,iG,gY] at *);omega)) yX0 (rM dU x (Gz _)) ?_;intro w12 mM
     refine hK _ _ (.inl rfl) ?_;clear hK hSd;refine dH au ?_
     try simp only [kP]
     try go_frame
     rw [<-VK.o]at mM;go_wp2_with fail
     go_roundg (t.slots.length-(i+1))
     case measure=>have:=bT.o;((try simp only [dX,iE,og,iG,gY] at *);omega)
     case rel=>exact ⟨i+1,_,rfl,bT.o,by first|rfl|go_num,VL.o,by rw [ai3];exact jT.o,mM.sb⟩) : p := h
theorem fH.Ua:type_of% @func191:=@func191
theorem fH.Ub:type_of% @ntmps191:=@ntmps191
abbrev fH.og:Nat:=80
abbrev fH.qp:=@Rep.dY
open fH in
theorem abO (ok:t.Ok) (hN:t.n<=N) (hNb:N<=134217728) (Zb:t.slots.length<=1073741824) (h:Sat w0 w (iI p 250 sv t.n t.gone::aC 289 38 sv (t.slots.flatMap (slotL fM))::F)) :
  Calls prog 191 #[ptr p,.int .i64 N] w (aP λ_ w'=>∃ s' sv',Tab.wz t s' N/\Sat w0 w' (iI p 250 sv' t.n 0::aC 289 38 sv' (s'.flatMap (slotL fM))::F)):=QB
theorem acC (k:aj.Bs) (hk:k.length=32) (v:Rep.dY) (w:World) :
  (Instr.build 289 #[(0,.int .i64 1),(1,.agg (aA k).toArray),(2,.agg (fM v).toArray)]).run prog w=.ok (.agg (slotL fM ⟨1,k,v⟩).toArray) w:=by
 have hbk:(aA k).toArray.size=32:=by rw [abn,aX,hk]
 refine (apP (P:=prog) [(0,.int .i64 1),(1,.agg (aA k).toArray),(2,.agg (fM v).toArray)] akP BF (by
  intro p' hp;simp only [ad5,ah4,apX]at hp;have hzz:(Value.agg (slotL fM (⟨0,aj.zero32,xF⟩:Tab.Slot (Rep.dY))).toArray).cells.size=38:=by
   show (slotL fM (⟨0,aj.zero32,xF⟩:Tab.Slot (Rep.dY))).toArray.size=38;rw [abn,lS fM _ aN 5 rfl]
  rw [hzz];rcases hp with rfl|rfl|rfl
  ·exact ⟨0,rfl,by show 0+1<=38;omega⟩
  ·refine ⟨1,?_,?_⟩
   ·show some (1,32)=some (1,(aA k).toArray.size);rw [hbk]
   ·show 1+(aA k).toArray.size<=38;omega
  ·exact ⟨33,rfl,by show 33+5<=38;omega⟩) w).trans ?_
 rw [show (Value.agg (slotL fM (⟨0,aj.zero32,xF⟩:Tab.Slot (Rep.dY))).toArray).cells=(slotL fM (⟨0,aj.zero32,xF⟩:Tab.Slot (Rep.dY))).toArray from rfl,Rt fM ⟨0,aj.zero32,xF⟩ k v aN hk rfl 5 rfl]
theorem QC {p : Prop} (h : p := by
 obtain ⟨t,sv,⟨ok,is,hb⟩,hR⟩:=LV h;obtain ⟨d,he⟩:=ok.ends k;have hsz:t.slots.length<=1073741824:=by have:=ok.size;((try simp only [dX,lU,iE,iG,gY] at *);omega)
 have Hlen:=uQ (show ∀ x∈t.slots,(slotL dU x).length=dX from λx hx=>lS dU x (ok.good.key x hx) iE (zh _));obtain ⟨la,lc,rfl⟩:=jK Hlen.o (Sat.rd (hR.pick bf)) aN;have hrl:0<(t.slots.flatMap (slotL dU)).length:=by rw [jy Hlen.o];have:=ok.good.nY;((try simp only [dX,lU,iE,iG,gY] at *);omega)
 obtain ⟨bk,rfl⟩:=Rf (hR.pick bf) hrl;have Hk:=uQ hk;have dB:=uQ ok;have lF:=uQ is;have Hb:=uQ hb;have He:=uQ he;have iZ:=uQ hsz;have HB:=uQ hB;have lV:=uQ ok.good.nY;have Ed:=uQ (show (aA k).length=32 by rw [aX,hk]);clear h hk ok is hb he hsz hB hrl;go_enter Uc,Ud;go_wp2_with (with_reducible apply fD);refine ⟨fE hR ak ak ?_⟩;intro b4 w4 hS4;go_wp2_with (with_reducible apply fD);refine ⟨fE hS4 ak ak ?_⟩;intro b5 w5 hS5;have hA:Sat w0 w5 (iI p iG (.slice (some ⟨bk,0,none⟩) t.slots.length lc) t.n t.gone::aC gY dX (.slice (some ⟨bk,0,none⟩) t.slots.length lc) (t.slots.flatMap (slotL dU))::pt b4 (.cells (aA k).toArray 50 (0,0))::pt b5 (.cells (dU v).toArray lU (0,0))::F):=hS5.sb;clear hR hS4 hS5;go_wp2_with fail;refine (LY lV.o hA).mono ?_;rintro ee w7 ⟨v',rfl,rfl,rfl⟩
 go_wp2_with ((with_reducible refine bP ⟨?_⟩);refine iQ hA ah (aS (aS (aU (A:=pt b4 (.cells (aA k).toArray 50 (0,0)))))) underlying50 rfl (by rw [abn,Ed.o];kernel_rfl) ?_);have hf:=DU dB.o.good iZ.o Hk.o He.o hA;clear hA;refine hf.mono ?_;rintro ee w8 ⟨v',rfl,x,hx,rfl,mO⟩;clear hf;have hlt:=Tab.uz (k:=k) (d:=d) lV.o;by_cases h1:x.st=1
 ·have hd:decide (x.st=1)=true:=aeb h1;have hxm:=abA hx;have xO:=uQ (SI (f:=slotL dU) (k:=dX) (o:=33) (x':=⟨x.st,x.key,v⟩) (vs:=dU v) Hlen.o hx (ane dU x v (dB.o.good.key x hxm) rfl) (by show 33+iE<=dX;decide));have ru:=uQ (Tab.ak5 dB.o He.o hx h1 v);have zu:=uQ (Tab.ZN lF.o (Tab.abu dB.o.good He.o hx h1 v).2 t.n t.gone);have hrl:(t.slots.flatMap (slotL dU)).length=dX*t.slots.length:=jy Hlen.o;clear hx hxm h1;generalize Tab.pos k t.slots.length d=P0 at *
  have c0:(0:Int)<=(P0:Int):=oQ;have c1:(P0:Int)<(t.slots.length:Int):=oQ;go_wp2_with fail;have hSd:=mO.drew;clear mO;refine dN [6,7,8] (λw'=>w'.cell? ⟨p,0,none⟩=some (.slice (some ⟨bk,0,none⟩) t.slots.length lc)/\w'.rangeAt b5 0 (dU v)) au ?_;have hG:World.cell? _ ⟨p,0,none⟩=some (.slice (some ⟨bk,0,none⟩) t.slots.length lc)/\World.rangeAt _ b5 0 (dU v):=⟨hSd.cellP bJ 0 rfl,yP (hSd.pk (A:=pt b5 (.cells (dU v).toArray lU (0,0))))⟩;refine rP 0 ?_ (y:=aZ);refine rP 1 ?_ (y:=dW);refine rP 2 ?_ (y:=bY);refine rt 3 (h:=?_);refine rP 4 ?_ (y:=aZ);refine gK 5 ak au bV (jh (b:=b5) (o:=0) (dU v) ah zf rfl au (λw hw=>hw.2)) aQ gQ ?_;refine rP 6 ?_ (y:=jJ);refine rP 7 ?_ (y:=bY);clear hG;refine bW 8 ak au (λK hK=>?_);refine Jl (vs:=dU v) (P0*dX+33) hSd ak ak rfl (ku cZ) (by rw [hrl];show P0*dX+33+iE<=_;((try simp only [dX,lU,iE,iG,gY] at *);omega)) au ah ?_
  intro w12 mM;refine hK _ _ (.inl rfl) ?_;clear hK hSd;refine dH au ?_
  try simp only [kP]
  try go_frame
  rw [<-xO.o]at mM;go_wp2_with fail
  go_end0
  exact ⟨_,rfl,DV (sv:= .slice (some ⟨bk,0,none⟩) t.slots.length lc) ru.o zu.o (Nat.le_succ_of_le Hb.o) (mM.sb)⟩
 have hd:decide (x.st=1)=false:=ad2 h1;have hb4:=Hb.o;have hB4:=HB.o;have Zv:=iZ.o;obtain ⟨hA1,hA2,hA3,YG,YD,YE,YF,YH,YI⟩:=aoD t.n t.gone t.slots.length oQ Zv;have Hx:=uQ hx;have H1:=uQ h1;clear hx h1 hb4 hB4 Zv;go_wp2_with fail;have hSd:=mO.drew;clear mO;have e0:World.cell? _ ⟨p,0,none⟩=some (.slice (some ⟨bk,0,none⟩) t.slots.length lc):=hSd.cellP bJ 0 rfl;have e1:World.cell? _ ⟨p,1,none⟩=some (.int .i64 t.n):=hSd.cellP bJ 1 rfl;have e2:World.cell? _ ⟨p,2,none⟩=some (.int .i64 t.gone):=hSd.cellP bJ 2 rfl
 go_region
 have hcmp:3*t.slots.length<4*(t.n+t.gone+1)\/4*(t.n+t.gone+1)<=3*t.slots.length:=oQ;rcases hcmp with hcmp|hcmp
 focus
  have hci:(3:Int)*(t.slots.length:Int)<4*((t.n:Int)+(t.gone:Int)+1):=oQ;have hrn:=Ue (N:=t.n+1) dB.o (ai7 _) (by have:=Hb.o;have:=HB.o;((try simp only [dX,lU,iE,iG,gY] at *);omega)) iZ.o hSd;rw [show (((t.n+1:Nat)):Int)=(t.n:Int)+1 by ((try simp only [dX,lU,iE,iG,gY] at *);omega)]at hrn;clear hSd e0 e2;go_wp2_with fail;refine hrn.mono ?_;rintro ee w9 ⟨v',rfl,s',sv',Aq,jW⟩;clear hrn e1 hci hcmp;have hok1:=Aq.ok;have PO:=Aq.is lF.o t.n 0;have PU:4*((⟨s',t.n,0⟩:Tab.Tb (qp)).n+(⟨s',t.n,0⟩:Tab.Tb (qp)).gone+1)<=3*(⟨s',t.n,0⟩:Tab.Tb (qp)).slots.length:=by have:=Aq.lo;simp only;((try simp only [dX,lU,iE,iG,gY] at *);omega)
  have hb1:(⟨s',t.n,0⟩:Tab.Tb (qp)).n+(⟨s',t.n,0⟩:Tab.Tb (qp)).gone<=B:=by have:=Hb.o;simp only;((try simp only [dX,lU,iE,iG,gY] at *);omega)
  have fK:Sat w0 w9 (iI p iG sv' (⟨s',t.n,0⟩:Tab.Tb (qp)).n (⟨s',t.n,0⟩:Tab.Tb (qp)).gone::aC gY dX sv' ((⟨s',t.n,0⟩:Tab.Tb (qp)).slots.flatMap (slotL dU))::pt b4 (.cells (aA k).toArray 50 (0,0))::pt b5 (.cells (dU v).toArray lU (0,0))::F):=jW;clear jW Aq hA1 hA2 hA3 YG YD YE YF YH YI;generalize (⟨s',t.n,0⟩:Tab.Tb (qp))=t1 at hok1 PO PU hb1 fK;have Iz:=uQ (show ∀ x∈t1.slots,(slotL dU x).length=dX from λx hx=>lS dU x (hok1.good.key x hx) iE (zh _));obtain ⟨la1,JQ,rfl⟩:=jK Iz.o (Sat.rd (fK.pick bf)) aN;have vY:=uQ hok1;have Iw:=uQ PO;have Ny:=uQ PU;have Hb1:=uQ hb1;obtain ⟨d1,he1⟩:=hok1.ends k;have uO:=uQ he1;have hno:m k=none:=by
   obtain ⟨_,q2⟩:=lF.o.some dB.o He.o Hx.o;exact q2 H1.o
  have hsz1:t1.slots.length<=1073741824:=by have:=hok1.size;have:=HB.o;((try simp only [dX,lU,iE,iG,gY] at *);omega)
  clear hok1 PO PU hb1 he1;go_wp2_with ((with_reducible refine bP ⟨?_⟩);refine iQ fK ah (aS (aS (aU (A:=pt b4 (.cells (aA k).toArray 50 (0,0)))))) underlying50 rfl (by rw [abn,Ed.o];kernel_rfl) ?_);have hf:=DU vY.o.good hsz1 Hk.o uO.o fK;clear fK hsz1;refine hf.mono ?_;rintro ee w8b ⟨v',rfl,x1,hx1,rfl,hT⟩;have zK:=uQ hx1
  have G8:=uQ (show x1.st≠1 from λh=>by
   have:=(Iw.o.some vY.o uO.o hx1).1 h;rw [hno]at this;cases this)
  clear hf hx1 hno Hx H1 He dB lF Hlen lV Hb iZ hlt hd;go_wp2_with fail
 rotate_left
 focus
  have hci:¬ (3:Int)*(t.slots.length:Int)<4*((t.n:Int)+(t.gone:Int)+1):=oQ;have Ny:=uQ hcmp;clear e0 e1 e2 hcmp;go_wp2_with fail;clear hci hA1 hA2 hA3 YG YD YE YF YH YI hlt hd lV iZ;obtain ⟨t1,rfl⟩:∃ y,y=t:=⟨t,rfl⟩;obtain ⟨x1,rfl⟩:∃ y,y=x:=⟨x,rfl⟩;obtain ⟨d1,rfl⟩:∃ y,y=d:=⟨d,rfl⟩;obtain ⟨la1,Y9⟩:∃ y:Option Addr,y=some ⟨bk,0,none⟩:=⟨_,rfl⟩;obtain ⟨JQ,rfl⟩:∃ y,y=lc:=⟨lc,rfl⟩;rw [<-Y9]at hSd;have hT:=hSd;have vY:=uQ dB.o;have Iw:=uQ lF.o;have Hb1:=uQ Hb.o;have uO:=uQ He.o;have zK:=uQ Hx.o;have G8:=uQ H1.o;have Iz:=uQ Hlen.o;clear hSd dB lF Hb He Hx H1 Hlen Y9
 all_goals
  have hrl:(t1.slots.flatMap (slotL dU)).length=dX*t1.slots.length:=jy Iz.o;obtain ⟨bk1,rfl⟩:=Rf (hT.pick bf) (by rw [hrl];have:=vY.o.good.nY;((try simp only [dX,lU,iE,iG,gY] at *);omega));have xO:=uQ (KW (f:=slotL dU) (k:=dX) (i:=Tab.pos k t1.slots.length d1) (x:=⟨1,k,v⟩) Iz.o (lS dU _ Hk.o iE rfl) (Tab.uz vY.o.good.nY));have ru:=uQ (Tab.ak4 vY.o Ny.o uO.o zK.o G8.o Hk.o v);have zu:=uQ (Tab.ZN Iw.o (Tab.Gi vY.o.good uO.o zK.o G8.o Hk.o v).2 (t1.n+1) t1.gone);have hlt1:=Tab.uz (k:=k) (d:=d1) vY.o.good.nY;have hls:=lS dU (⟨1,k,v⟩:Tab.Slot (qp)) Hk.o iE rfl;have hwn:IntKind.i64.wrap ((t1.n:Int)+1)=(t1.n:Int)+1:=adr _ (by have:=Hb1.o;have:=HB.o;((try simp only [dX,lU,iE,iG,gY] at *);omega));clear zK G8 uO vY Iw Ny;generalize Tab.pos k t1.slots.length d1=P1 at *
  have c0:(0:Int)<=(P1:Int):=oQ;have c1:(P1:Int)<(t1.slots.length:Int):=oQ;have hSd:=hT.drew;clear hT;refine dN [8,9] (λw'=>w'.cell? ⟨p,0,none⟩=some (.slice (some ⟨bk1,0,none⟩) t1.slots.length JQ)/\w'.rangeAt b4 0 (aA k)/\w'.rangeAt b5 0 (dU v)) au ?_;have hG:World.cell? _ ⟨p,0,none⟩=some (.slice (some ⟨bk1,0,none⟩) t1.slots.length JQ)/\World.rangeAt _ b4 0 (aA k)/\World.rangeAt _ b5 0 (dU v):=⟨hSd.cellP bJ 0 rfl,yP (hSd.pk (A:=pt b4 (.cells (aA k).toArray 50 (0,0)))),yP (hSd.pk (A:=pt b5 (.cells (dU v).toArray lU (0,0))))⟩;refine rP 0 ?_ (y:=aZ);refine rP 1 ?_ (y:=dW);refine rP 2 ?_ (y:=bY);refine rt 3 (h:=?_);refine rP 4 ?_ (y:=aZ);refine gK 5 ak au bV (jh (b:=b4) (o:=0) (aA k) ah underlying50 rfl (by rw [Ed.o];kernel_rfl) (λw hw=>hw.2.1)) aQ gQ ?_;refine gK 6 ak au bV (jh (b:=b5) (o:=0) (dU v) ah zf rfl au (λw hw=>hw.2.2)) aQ gQ ?_
  refine rP 7 ?_ (y:=(GZ ak ak ak (λw=>Uf k Hk.o v w)));refine rP 8 ?_ (y:=jJ);clear hG;refine bW 9 ak au (λK hK=>?_);refine Jl (vs:=slotL dU ⟨1,k,v⟩) (P1*dX) hSd ak ak rfl (ku cZ) (by rw [hrl,hls];((try simp only [dX,lU,iE,iG,gY] at *);omega)) (by rw [hls];kernel_rfl) (rM dU _ ah) ?_;intro w12 mM;refine hK _ _ (.inl rfl) ?_;clear hK hSd;refine dH au ?_
  try simp only [kP]
  try go_frame
  rw [<-xO.o]at mM
  go_wp2_with (first
   |((with_reducible refine bP ⟨?_⟩);refine fZ mM ah bJ bI ak au ?_)
   |((with_reducible refine dh ⟨?_⟩);refine gq aQ ah ak pQ fV bI au ah ?_;intro wS hS))
  go_end0
  exact ⟨_,rfl,DV (sv:= .slice (some ⟨bk1,0,none⟩) t1.slots.length JQ) ru.o zu.o (by have:=Hb1.o;simp only;((try simp only [dX,lU,iE,iG,gY] at *);omega)) (hS.sb)⟩) : p := h
theorem fH.Uc:type_of% @func157:=@func157
theorem fH.Ud:type_of% @ntmps157:=@ntmps157
theorem fH.Ue:type_of% @abO:=@abO
theorem fH.Uf:type_of% @acC:=@acC
open fH in
theorem ak1 (hB:B<=134217000) (hk:k.length=32) (v:Rep.dY) (h:Sat w0 w (gJ p m B::F)) :
  Calls prog 157 #[ptr p,.agg (aA k).toArray,.agg (fM v).toArray] w (aP λ_ w'=>Sat w0 w' (gJ p (Tab.put m k v) (B+1)::F)):=QC
theorem aao {p : Prop} (h : p := by
 have h0:=Sat.start W;have h1:=h0.alloc (.cells (slotL jQ x).toArray pJ);have h2:=(h1.alloc (.cells (slotL jQ y).toArray pJ)).drew;have hsz:(W.alloc (.cells (slotL jQ x).toArray pJ)).heap.size=W.heap.size+1:=Array.size_push ..;rw [hsz]at h2
 have r1:bF 1 (.slice (some ⟨W.heap.size,1,none⟩) 32 32) (aA x.key) ((W.alloc (.cells (slotL jQ x).toArray pJ)).alloc (.cells (slotL jQ y).toArray pJ)).drew:=
  ⟨_,_,_,rfl,by rw [aX,hx],λj z hj=>⟨_,rfl,by rw [zS];exact DJ (h2.pick bf) j z hj⟩⟩
 have r2:bF 1 (.slice (some ⟨W.heap.size+1,1,none⟩) 32 32) (aA y.key) ((W.alloc (.cells (slotL jQ x).toArray pJ)).alloc (.cells (slotL jQ y).toArray pJ)).drew:=
  ⟨_,_,_,rfl,by rw [aX,hy],λj z hj=>⟨_,rfl,by rw [zS];exact DJ (h2.pick aU) j z hj⟩⟩
 have hb:=WH x.key y.key r1 r2;clear h0 h1 h2 r1 r2 hsz;generalize Lib.compareBytes x.key y.key=r at *
 go_enter ac5,ac6;go_wp2_with fail;have hG:True:=trivial;refine dN [] (λw'=>True) au ?_;refine rP 0 ?_ (y:=bY);refine rp 1 (hy:=yE0) (h:=?_);refine rP 2 ?_ (y:=bY);refine rp 3 (hy:=yE0) (h:=?_);refine bW 4 ak au (λK hK=>?_)
 (refine iC au ak ak ?_)
 refine hb.mono ?_;rintro e w' ⟨rfl,rfl⟩;refine hK _ _ (.inr (.inr rfl)) ?_;clear hK hb;refine rP 5 ?_ (y:=iy);refine dH au ?_;clear hG;go_wp2_with fail;go_ret;exact ⟨rfl,1,#[.cells (slotL jQ x).toArray pJ,.cells (slotL jQ y).toArray pJ],by rw [Sort.alloc_eq_grow,Sort.alloc_eq_grow,Sort.grow_grow,Sort.drew_grow];rfl⟩) : p := h
abbrev fH.jQ:=@fM
abbrev fH.pJ:Nat:=289
theorem fH.ac5:type_of% @func220:=@func220
theorem fH.ac6:type_of% @ntmps220:=@ntmps220
open fH in
theorem WZ (x y:Tab.Slot (Rep.dY)) (hx:x.key.length=32) (hy:y.key.length=32) (W:World) :
  Calls prog 220 #[.agg (slotL fM x).toArray,.agg (slotL fM y).toArray] W λe w'=>e=.returned (.int .i64 (Lib.compareBytes x.key y.key))/\∃ q os',w'=Sort.grow (W.drewN q) os':=aao
open Go.Sort
abbrev VW:Type:={ x:Tab.Slot (Rep.dY) // x.key.length=32 }
instance:Inhabited VW:=⟨⟨⟨0,aj.zero32,⟨0,Seg.aV.zero,0⟩⟩,rfl⟩⟩
theorem aap {p : Prop} (h : p := by
 have hlen:∀ x∈l,(slotL jQ x).length=nM:=λx hx=>lS jQ x (hk x hx) Bd (LZ _);rcases h.lC with ⟨rfl,hn',h'⟩|⟨g,n,cap,cs,rfl,hl,hn',hc,hcm,htk,hp⟩
 ·obtain rfl:l=[]:=by
   cases l with
   |nil=>rfl
   |cons x l=>rw [ael]at hn';have:=aey List.length hn';rw [aaL,hlen x (.head _)]at this;simp at this
  refine (AnyF.slices_SortFunc_none Ug none 0 (.func (.func GH) #[] #[]) w).mono ?_;rintro e w1 ⟨rfl,rfl⟩;exact ⟨_,rfl,[],⟨.refl _,.nil⟩,h⟩
 ·rw [jy hlen,aiv]at hl;obtain rfl:n=l.length:=(Nat.eq_of_mul_eq_mul_right aN hl).symm;let d:Array qR:=(l.attach.map λx=>(⟨x.1,hk x.1 x.2⟩:qR)).toArray;have hd:d.toList.map (·.1)=l:=by
   show (l.attach.map λx=>(⟨x.1,hk x.1 x.2⟩:qR)).map (·.1)=l;rw [aeW];exact List.attach_map_subtype_val l
  have hds:d.size=l.length:=by rw [<-hd,aa4,ad4]
  have hke:∀ x:qR,((λx:qR=>slotL jQ x.1) x).length=nM:=λx=>lS jQ x.1 x.2 Bd (LZ _);have hfl:∀ d:Array qR,(flatK (λx:qR=>slotL jQ x.1) nM d).toList=(d.toList.map (·.1)).flatMap (slotL jQ):=λd=>by
   rw [ahu hke aN,List.flatMap_map]
  have hH:HoldsK (λx:qR=>slotL jQ x.1) nM w g 0 d:=aix hp.at (by rw [size_flatK,hds,hfl,hd];exact htk);refine (AnyQ.slices_SortFunc Ug nM ac7 ac8 (λx:qR=>slotL jQ x.1) hke (λx v hv=>ae0.1 (rM jQ x.1 (Ui _)) v hv) (λx y=>Lib.compareBytes x.1.key y.1.key) (Tab.anD λx:qR=>x.1.key) GH #[] g 0 cap d w (λargs w=>by kernel_rfl) (λm os dk _ x y=>ac9 x.1 y.1 x.2 y.2 _) hH hp.lt oQ |> λq=>(by rw [hds]at q;exact q:Calls prog Uj #[.slice (some ⟨g,0,none⟩) l.length cap,.func (.func GH) #[] #[]] w _)).mono ?_;rintro e w1 ⟨rfl,d',n',os,hpm,hst,rfl⟩;obtain ⟨q1,q2⟩:=Tab.anl (key:=λx:qR=>x.1.key) (by rw [hds];exact hpm) (by rw [hds];exact hst);have hl':d'.toList.length=l.length:=by rw [q1.length_eq,ad4,hds]
  have hS:=amK (n:=n') (os:=os) hp (flatK (λx:qR=>slotL jQ x.1) nM d');have hsz':(flatK (λx:qR=>slotL jQ x.1) nM d').size=l.length*nM:=by rw [size_flatK,<-ad4,hl']
  refine ⟨_,rfl,d'.toList.map (·.1),⟨by rw [<-hd];exact q1.map _,ajM.2 q2⟩,?_⟩;refine hS.lN ?_ hn' (by simpa [Sort.putCells] using hc) hcm ?_
  ·rw [<-hfl,ad4,hsz']
  ·rw [<-hfl,<-hsz'];refine anT _ ?_;have:l.length*nM<=cap*nM:=ae4 _ hn'
   ((try simp only [nM,Bd,GH,Uj] at *);omega)) : p := h
abbrev fH.nM:Nat:=38
abbrev fH.Bd:Nat:=5
theorem fH.LZ:type_of% @EH:=@EH
theorem fH.Ug:type_of% @Tryz.sortA:=@Tryz.sortA
abbrev fH.GH:Nat:=220
abbrev fH.qR:=@VW
theorem fH.ac7:type_of% @Tryz.isAgg289:=@Tryz.isAgg289
theorem fH.ac8:type_of% @Tryz.sizeOf289:=@Tryz.sizeOf289
theorem fH.Ui:type_of% @BQ:=@BQ
theorem fH.ac9:type_of% @WZ:=@WZ
abbrev fH.Uj:Nat:=219
open fH in
theorem ani (l:List (Tab.Slot (Rep.dY))) (hk:∀ x∈l,x.key.length=32) (hn:l.length<=1073741824) (h:Sat w0 w (aC 289 38 v (l.flatMap (slotL fM))::F)) :
  Calls prog 219 #[v,.func (.func 220) #[] #[]] w (aP λ_ w'=>∃ l':List (Tab.Slot (Rep.dY)),(l'.Perm l/\l'.Pairwise λa b=>¬ b.key<a.key)/\Sat w0 w' (aC 289 38 v (l'.flatMap (slotL fM))::F)):=aap
open Go.ay
theorem abU (hB:B<=13000000) (h:Sat w0 w (gJ p m B::F)) :
  Calls prog 193 #[ptr p] w (aP λv w'=>∃ l:List (Tab.Slot (Rep.dY)),(Tab.Lists m (l.map λx=>(x.key,x.val))/\(∀ x∈l,x.st=1/\x.key.length=32)/\l.length<=B)/\Sat w0 w' (aC 289 38 v (l.flatMap (slotL fM))::gJ p m B::F)):=by
 obtain ⟨t,sv,⟨ok,is,hb⟩,hR⟩:=gJ.open h;have hsz:t.slots.length<=56000000:=by have:=ok.size;omega
 have Hlen:=uQ (show ∀ x∈t.slots,(slotL fM x).length=38 from λx hx=>lS fM x (ok.good.key x hx) 5 (EH _));obtain ⟨la,lc,rfl⟩:=jK Hlen.o (Sat.rd (hR.pick bf)) aN;have dB:=uQ ok;have lF:=uQ is;have Hb:=uQ hb;have iZ:=uQ hsz;have lV:=uQ ok.good.nY;clear h ok is hb hB;have hS0:Sat w0 w (aC 289 38 (.slice none 0 0) []::iI p 250 (.slice la t.slots.length lc) t.n t.gone::aC 289 38 (.slice la t.slots.length lc) (t.slots.flatMap (slotL fM))::F):=Sat.gB.2 hR;clear hR;go_enter func193,ntmps193;go_wp2_with fail;refine (Q8 lV.o (hS0.pick bf)).mono ?_;rintro ee w7 ⟨v,rfl,rfl,rfl⟩;go_wp2_with ((with_reducible refine bP ⟨?_⟩);refine fZ hS0 ah bJ bI ak au ?_)
 go_loopg [3,14] t.slots.length (λg oq iq wr=>∃ (i:Nat),g=t.slots.length-i/\i<=t.slots.length/\iq=.int .i64 i /\
  Sat w0 wr (aC 289 38 oq (((t.slots.take i).filter λx=>decide (x.st=1)).flatMap (slotL fM))::iI p 250 (.slice la t.slots.length lc) t.n t.gone::aC 289 38 (.slice la t.slots.length lc) (t.slots.flatMap (slotL fM))::F))
 case atStart=>exact ⟨0,rfl,aea _,rfl,hS0⟩
 case round=>
  obtain ⟨i,rfl,hi,rfl,hS⟩:=hrel;clear hS0;by_cases hlt:i<t.slots.length;rotate_left
  ·obtain rfl:i=t.slots.length:=by omega
   have c1:¬ (t.slots.length:Int)<(t.slots.length:Int):=oQ;rw [aeo]at hS;have hfk:∀ x∈t.slots.filter λx=>decide (x.st=1),x.key.length=32:=λx hx=>dB.o.good.key x (aem.1 hx).1;have hs:=ani (t.slots.filter λx=>decide (x.st=1)) hfk (adt (aeT _ _) (adt hsz aN)) hS;clear hlt hi hS hfk;go_wp2_with fail;refine hs.mono ?_;rintro ee w8 ⟨v,rfl,l,⟨h1,h2⟩,mO⟩;clear hs;have Hl:=uQ (Tab.Qu dB.o.good lF.o h1 h2)
   have Hll:=uQ (show l.length<=B from by
    rw [h1.length_eq,<-List.countP_eq_length_filter];have e:t.slots.countP (λx=>decide (x.st=1))=Tab.kD t.slots:=by
     unfold Tab.kD;refine List.countP_congr λx _=>?_;simp
    have:=dB.o.n;have:=Hb.o;omega)
   clear h1 h2;go_wp2_with fail;go_ret;exact ⟨_,rfl,l,⟨Hl.o.1,Hl.o.2,Hll.o⟩,Sat.abo (gJ.shut dB.o lF.o Hb.o (mO.sb))⟩
  have c1:(i:Int)<(t.slots.length:Int):=oQ;have hwi:=CS (i:=i);obtain ⟨x,hx⟩:∃ x,t.slots[i]?=some x:=⟨_,aay hlt⟩;have hxm:=abA hx;have hst:=dB.o.good.st x hxm;have Hxk:=uQ (dB.o.good.key x hxm);obtain ⟨bk,off,c',hsv,hcell⟩:=jd Hlen.o (Sat.rd (hS.pick eH)) hx aN;cases hsv;have jo:=Hlen.o x hxm;have htk:(t.slots.take (i+1)).filter (λx=>decide (x.st=1))=(t.slots.take i).filter (λx=>decide (x.st=1))++[x].filter λx=>decide (x.st=1):=by
   rw [aeK,hx,afw,ajO]
  have eG:=uQ htk;have bT:=uQ hlt;have Fj:(((t.slots.take i).filter λx=>decide (x.st=1)).flatMap (slotL fM)).length<=2147483648:=by
   rw [jy λy hy=>Hlen.o y (aeP (aem.1 hy).1)];have h1:=aeT (λx=>decide (x.st=1)) (t.slots.take i);have h2:=apE i t.slots;have h3:=iZ.o;omega
  clear hx hxm hlt hi htk
  go_wp2_with (first
   |((with_reducible refine bP ⟨?_⟩);refine iR (b:=bk) (o:=off+i*38) (slotL fM x) ah hcell underlying289 rfl yX0 ?_)
   |(with_reducible apply fB))
  refine ⟨eF BF hS rfl ?_⟩;intro b7 w7 hS7;go_wp2_with (first|((with_reducible refine dh ⟨?_⟩);refine fP (slotL fM x).toArray hS7 ah ah (by rw [abn,jo];rfl) cZ yQ0 (by rw [ad6];exact rM fM x (BQ _)) ?_;intro w10 fK)|(with_reducible apply bP));refine ⟨?_⟩;clear hS hS7 hcell;have f0:w10.cell? ⟨b7,0,none⟩=some (.int .i64 x.st):=fK.cellP aU 0 (by rw [ace];rfl);by_cases h1:x.st=1;rotate_left
  ·have hst1:((x.st:Int)==1)=false:=by rw [adX];omega
   have e9:(t.slots.take (i+1)).filter (λx=>decide (x.st=1))=(t.slots.take i).filter (λx=>decide (x.st=1)):=by
    rw [eG.o,an5 (by rw [ad2 h1];decide),List.filter_nil,adV]
   have E9:=uQ e9;clear h1 e9;go_wp2_with fail
   go_roundg (t.slots.length-(i+1))
   case measure=>have:=bT.o;omega
   case rel=>exact ⟨i+1,rfl,bT.o,by first|rfl|go_num,by rw [E9.o];exact fK.sb⟩
  ·have hst1:((x.st:Int)==1)=true:=by rw [h1];rfl
   have e9:((t.slots.take (i+1)).filter (λx=>decide (x.st=1))).flatMap (slotL fM)=((t.slots.take i).filter (λx=>decide (x.st=1))).flatMap (slotL fM)++slotL fM x:=by
    rw [eG.o,apF (by rw [aeb h1]),List.filter_nil,aeB,ael,ajb,adV]
   have E9:=uQ e9;clear h1 e9
   go_wp2_with (first
    |((with_reducible refine bP ⟨?_⟩);refine iQ fK ah bJ underlying289 rfl yQ0 ?_)
    |(with_reducible apply nR))
   refine ⟨nN (e:=289) (sz:=38) (eX:=80) au fK ah (cs:=(slotL fM x).toArray) rfl (by rw [abn,jo]) aN ?_⟩;intro bN wN hN;go_wp2_with (with_reducible apply lH);refine ⟨oh 289 38 80 au hN ah ah bJ aU (by rw [abn,jo]) (abl 1) (by rw [ad6];exact rM fM x (BQ _)) Fj (by rw [abn,jo];decide) aN (by rw [ad6]) ?_⟩;intro bA nA cA wA hA;go_wp2_with fail;rw [<-E9.o]at hA
   go_roundg (t.slots.length-(i+1))
   case measure=>have:=bT.o;omega
   case rel=>exact ⟨i+1,rfl,bT.o,by first|rfl|go_num,hA.sb⟩
end Go.Proofs.Y
namespace Go
open Go.Sl
variable {P:Program}{ops:Array Oper}{Q:Exit->Act->World->Prop}{K:Act->World->Prop}{l:Option Nat}{n:Nat}
abbrev rf (l:Option Nat):Fence:={ Fence.wide with round:=l }
abbrev calm (K:Act->World->Prop):Exit->Act->World->Prop:=Exit.then K λ_ _ _=>False
theorem OD:¬ LetsOut (calm K):=λ⟨_,_,h⟩=>h
theorem alP {row:String}{args:Array Value}{w:World}{R:Value->World->Prop} (h:Rows P row args w R):RowsIn (rf l) n P row args w R:=λc cs _=>by
 obtain ⟨v,w',r,s⟩:=h c cs;exact ⟨v,w',r,stepsIn_wide.2 s⟩
theorem aa7 {o:Oper}{a:Act}{w:World}{N N':Act->World->Prop} (ho:∀ c,o.op ≠ .defer c) (hN:∀ a w,N a w->N' a w) (h:o.wp P a w N (calm K)):o.wpIn (rf l) n P a w N' Q:=by
 refine ⟨λ_ _=>trivial,?_⟩;rw [Oper.semAt_eq _ _ _ ho];unfold Oper.wp at h;generalize (execOp a.eval o).run P w=r at h ⊢;cases r with
 |ok x w'=>
  cases x with
  |value v=>exact hN _ _ h
  |skip=>exact hN _ _ h
  |defer d=>exact hN _ _ h
  |enter f args=>
   refine ⟨(λhd=>by cases hd),?_⟩;refine CallsIn.mono (callsIn_wide.2 h) λe w'' he=>?_;cases e with
   |returned v=>exact hN _ _ he
   |panicked c=>exact False.elim he
   |outgrown=>exact (OD he).elim
  |row row args=>exact ⟨(λhd=>by cases hd),(alP h).mono λv w'' he=>hN _ _ he⟩
  |round l' f tmps assign body=>exact h.elim
  |_=>exact h.elim
 |halt x w'=>
  cases x with
  |panic v=>exact False.elim h
  |_=>exact h.elim
theorem Qs {AV:List Oper} (hK:∀ a w,K a w->wpListIn (rf l) n P ops Q AV a w):∀ (rest:List Oper) (a:Act) (w:World),(∀ o∈rest,∀ c,o.op ≠ .defer c)->wpList P ops (calm K) rest a w->wpListIn (rf l) n P ops Q (rest++AV) a w
 |[],a,w,_,h=>hK _ _ h
 |o::rest,a,w,hd,h=>by
  have ih:=Qs (AV:=AV) hK rest;show if Region.wanted o (yielded ops a.tmps)=true then o.wpIn (rf l) n P a w (wpListIn (rf l) n P ops Q (rest++AV)) Q else (∀ f,o.about P w a.eval=some f->(rf l).fn f)/\wpListIn (rf l) n P ops Q (rest++AV) (a.put o.dst undef) w
  have h':if Region.wanted o (yielded ops a.tmps)=true then o.wp P a w (wpList P ops (calm K) rest) (calm K)\/(o.asks P a w/\LetsOut (calm K)) else wpList P ops (calm K) rest (a.put o.dst undef) w:=h
  split at h'
  ·rename_i hw;rw [acg hw];rcases h' with h'|h'
   ·exact aa7 (hd o (.head _)) (λa w h=>ih a w (λo ho=>hd o (.tail _ ho)) h) h'
   ·exact (OD h'.2).elim
  ·rename_i hw;rw [abj hw];exact ⟨λ_ _=>trivial,ih _ _ (λo ho=>hd o (.tail _ ho)) h'⟩
abbrev AA (ops:Array Oper):Bool:=ops.toList.all λo=>match o.op with | .defer _=>false|_=>true
theorem QW (hd:AA ops=true):∀ o∈ops.toList,∀ c,o.op ≠ .defer c:=λo ho c e=>by
 have:=(ae0.1 hd) o ho;rw [e]at this;cases this
theorem aae {rest:List Oper}{a:Act}{w:World} (hd:∀ o∈rest,∀ c,o.op ≠ .defer c) (h:wpList P ops (calm (Q .normal)) rest a w):wpListIn (rf l) n P ops Q rest a w:=by
 have:=Qs (l:=l) (n:=n) (AV:=[]) (Q:=Q) (λ_ _ h=>h) rest a w hd h;rw [adV]at this;exact this
theorem alv {id:Nat}{a:Act}{w:World} (hd:AA ops=true) (h:wpList P ops (calm (Q .normal)) ops.toList a w):(Code.region id ops false).wpIn (rf l) n P Q a w:=
 wpIn_region_list (aae (QW hd) h)
theorem IW (hd:∀ o∈ops.toList,∀ c,o.op ≠ .defer c):∀ (k:Nat) (ls:Array Bool) (a:Act) (w:World),wpAny P .any ops (calm (Q .normal)) k ls a w->wpAnyIn (rf l) n P .any ops Q k ls a w
 |0,_,_,_,h=>h
 |k+1,ls,a,w,h=>by
  refine ⟨h.1,λi hi=>?_⟩;have h':=h.2 i hi;unfold wpOp at h';unfold wpOpIn;split at h'
  ·rename_i he;simp only [he];exact IW hd k _ _ _ h'
  ·rename_i o he;simp only [he];split at h'
   ·rename_i hw;rw [acg hw];rcases h' with h'|h'
    ·refine aa7 (hd o ?_) (λa w h=>IW hd k _ a w h) h';rw [<-ajw]at he;exact abA he
    ·exact (OD h'.2).elim
   ·rename_i hw;rw [abj hw];exact ⟨λ_ _=>trivial,IW hd k _ _ _ h'⟩
theorem alx {id:Nat}{a:Act}{w:World} (late:List Nat) (G:World->Prop) (hd:AA ops=true) (hm:P.follows .mixedOrders=true)
  (h:jV P ops (calm (Q .normal)) late G ops.size (Array.replicate ops.size false) a w.drew):(Code.region id ops true).wpIn (rf l) n P Q a w:=
 wpIn_region_any hm (IW (QW hd) _ _ _ _ (Uy _ _ _ _ h))
theorem vJ {id:Nat}{rest:List Oper}{a:Act}{w:World} (hd:AA rest.toArray=true) (h:∀ K:Act->World->Prop,(∀ a w,Q .normal a w->K a w)->wpList P rest.toArray (Exit.then K λ_ _ _=>False) rest a w):(Code.region id rest.toArray false).wpIn (rf l) n P Q a w:=
 alv hd (by simpa using h _ λ_ _ h=>h)
theorem aly {id:Nat}{a:Act}{w:World} (late:List Nat) (G:World->Prop) (hd:AA ops=true) (hm:P.follows .mixedOrders=true)
  (h:∀ K:Act->World->Prop,(∀ a w,Q .normal a w->K a w)->jV P ops (Exit.then K λ_ _ _=>False) late G ops.size (Array.replicate ops.size false) a w.drew):(Code.region id ops true).wpIn (rf l) n P Q a w:=
 alx late G hd hm (h _ λ_ _ h=>h)
theorem alz {id:Nat}{a:Act}{w:World} (pre:List Oper) (o:Oper) (post:List Oper) (he:ops.toList=pre++o::post) (hd:AA ops=true)
  (h:wpList P ops (calm λa w=>Region.wanted o (yielded ops a.tmps)=true/\∃ (l':Nat) (f:FuncId) (tmps:Array Value) (assign body:Code),(execOp a.eval o).run P w=.ok (.round l' f tmps assign body) w /\
   RoundIn Fence.wide 0 P l' f tmps assign body w (λe w'=>∃ v,e=.returned v/\wpList P ops (calm (Q .normal)) post (a.put o.dst v) w')) pre a w) :
  (Code.region id ops false).wp P Q a w:=by
 refine wpIn_wide (n:=0).1 (wpIn_region_list ?_);have hd':=QW hd;rw [he]at hd' ⊢;refine Qs (l:=none) (n:=0) (K:=_) (λa w hk=>?_) pre a w (λo ho=>hd' o (ap0 _ ho)) h;obtain ⟨hw,l',f,tmps,assign,body,hx,hF,hc⟩:=hk;show if Region.wanted o (yielded ops a.tmps)=true then o.wpIn (rf none) 0 P a w (wpListIn (rf none) 0 P ops Q post) Q else _
 rw [acg hw];refine ⟨λ_ _=>trivial,?_⟩;rw [Oper.semAt_eq _ _ _ (hd' o yF0),hx];refine ⟨(λhd=>by cases hd),hF,λc cs hro=>?_⟩;obtain ⟨e,w',⟨v,rfl,hv⟩,hs⟩:=hc c cs hro;exact ⟨.returned v,w',aae (l:=none) (n:=0) (λo ho=>hd' o (List.mem_append_right _ (.tail _ ho))) hv,hs⟩
theorem alA {a:Act}{w:World}{id:Nat}{o0 o1 o2 o3 o4 o o6:Oper}{c:Code} (hd:AA #[o0,o1,o2,o3,o4,o,o6]=true)
  (h:∀ K:Act->World->Prop,(∀ a w,c.wp P Q a w->K a w)->wpList P #[o0,o1,o2,o3,o4,o,o6] (calm λa w=>Region.wanted o (yielded #[o0,o1,o2,o3,o4,o,o6] a.tmps)=true/\∃ (l':Nat) (f:FuncId) (tmps:Array Value) (assign body:Code),(execOp a.eval o).run P w=.ok (.round l' f tmps assign body) w /\
   RoundIn Fence.wide 0 P l' f tmps assign body w (λe w'=>∃ v,e=.returned v/\wpList P #[o0,o1,o2,o3,o4,o,o6] (Exit.then K λ_ _ _=>False) [o6] (a.put o.dst v) w')) [o0,o1,o2,o3,o4] a w) :
  (Code.seq (Code.region id #[o0,o1,o2,o3,o4,o,o6] false) c).wp P Q a w:=
 wp_seq (alz [o0,o1,o2,o3,o4] o [o6] rfl hd (h _ λ_ _ h=>h))
open Go.Sl Go.RowKit
section
variable {P:Program}{w0 w:World}{F R L:List aG}{b:Nat}{o o':Obj}{kv:List (Array Value)}{A A':List aG}
theorem Sl.Sat.putObj (o':Obj) (h:Sat w0 w (pt b o::R)):Sat w0 (w.putObj b o') (pt b o'::R):=
 h.turn rfl rfl rfl (by rw [World.putObj_size];exact abl _) (World.putObj_heap_same h.lt) λi hi _=>World.putObj_heap_other hi
theorem Sl.Sat.IX (h:Sat w0 w (L++R)):Sat w0 w (R++L):=h.perm akF
def Iter (P:Program) (gf:Nat) (lb:Array Value) (kv:List (Array Value)) (w0:World) (A A':List aG):Prop:=
 ∀ (l:Nat) (R:List (Array Value)->List aG),
  (∀ pre x post W U,kv=pre++x::post->Sat w0 W (R pre++U)->∃ f tmps assign body,(Instr.yield l x).run P W=.ok (.round l f tmps assign body) W /\
   RoundIn Fence.wide 0 P l f tmps assign body W (λe W'=>e=.returned (.bool true)/\Sat w0 W' (R (pre++[x])++U))) ->
  ∀ W,Sat w0 W (A++R [])->Calls P gf (#[.func (.yield l) #[] #[]]++lb) W (aP λv W'=>Sat w0 W' (A'++R kv))
theorem adG {g:Operand}{ps:Array Tmp}{assign body:Code}{Q:Exit->Act->World->Prop}{a:Act}{gf:Nat}{lb:Array Value}
  (hg:a.eval g=.func (.func gf) #[] lb) (eg:∀ args w,(callFunc gf args).run P w=.ok (.enter gf args) w)
  (hit:Iter P gf lb kv w0 A A') (hps:∀ x∈kv,x.size=ps.size) (R:List (Array Value)->List aG) (h:Sat w0 w (A++R []))
  (aiA:∀ (l:Nat) (pre:List (Array Value)) (x:Array Value) (post:List (Array Value)) (U:List aG) (W:World),kv=pre++x::post->Sat w0 W (R pre++U) ->
   ∀ T,T=(ps.zip x).foldl (λt (p,v)=>t.setIfInBounds p v) a.tmps->assign.wpIn (rf (some l)) 0 P (Exit.then (λa₁ w₁=>∃ M:List aG,Sat w0 w₁ (M++U)/\∀ U' w₂,Sat w0 w₂ (M++U')->body.wpIn (rf (some l)) 0 P (λe _ w₃=>e=.normal/\Sat w0 w₃ (R (pre++[x])++U')) a₁ w₂) (λ_ _ _=>False))
    { tmps:=T,defers:=[] } W)
  (hdone:∀ D w',Sat w0 w' (A'++(R kv++[pt D (.deferred (some []))]))->Q .normal { a with defers:={ target:= .collected D,args:=#[] }::a.defers } w') :
  (Code.rangeFunc g ps assign body).wp P Q a w:=by
 refine (wpIn_wide (n:=0)).1 (wpIn_rangeFunc ?_);intro fn hfn;obtain ⟨rec,hrec⟩:∃ rec:LoopState->Option Code->Loop,rec=λst pe=>{ state:=st,pending:=pe,fn,tmps:=a.tmps,params:=ps,assign,body,defers:=w.heap.size }:=⟨_,rfl⟩;obtain ⟨D,hD⟩:∃ D,D=w.heap.size:=⟨_,rfl⟩;obtain ⟨l,hl⟩:∃ l,l=D+1:=⟨_,rfl⟩;obtain ⟨W1,hW1⟩:∃ W1,W1=(w.alloc (.deferred (some []))).alloc (.loop (rec .ready none)):=⟨_,rfl⟩;have hS1:Sat w0 W1 (pt l (.loop (rec .ready none))::pt D (.deferred (some []))::(A++R [])):=by
  have:=(h.alloc (.deferred (some []))).alloc (.loop (rec .ready none));rw [World.size_alloc,<-hW1,<-hD,<-hl]at this;exact this
 refine ⟨l,[{ target:= .collected D,args:=#[] }],W1,{ target:= .fn (.func gf) lb,args:=#[.func (.yield l) #[] #[]] },W1,gf,#[.func (.yield l) #[] #[]]++lb,W1,?_,?_,?_,?_,(λh=>by cases h),?_⟩
 ·rw [hW1,hl,hD,hrec];exact run_enterLoop_outer _ _ _ _ _
 ·simp only [resolve,hg];simp [go_sem]
 ·intro f' _;trivial
 ·simp [invoke,go_sem,eg]
 ·refine callsIn_wide.2 ((hit l (λpre=>R pre++[pt l (.loop (rec .ready none)),pt D (.deferred (some []))]) ?_ W1 ?_).mono ?_)
  ·intro pre x post W U hkv hS;have hS':Sat w0 W (pt l (.loop (rec .ready none))::(R pre++(pt D (.deferred (some []))::U))):=by
    rw [adQ]at hS;exact hS.perm apb
   have hat:=hS'.at;have hy:=run_yield (P:=P) (args:=x) hat (by rw [hrec];exact hps x (by rw [hkv];simp));refine ⟨_,_,_,_,hy,roundIn_of_wpIn trivial ?_⟩
   have hr:=aiA l pre x post (pt D (.deferred (some []))::U++[pt l (.loop (rec .ready none))]) W hkv (hS'.perm (by
    rw [<-aeI,<-adQ];exact (akF (l₁:=[pt l (.loop (rec .ready none))]) (l₂:=R pre++(pt D (.deferred (some []))::U))))) _ rfl
   have e1:((rec .ready none).params.zip x).foldl (λtmps (t,a)=>tmps.setIfInBounds t a) (rec .ready none).tmps=(ps.zip x).foldl (λt (p,v)=>t.setIfInBounds p v) a.tmps:=by rw [hrec]
   rw [e1];have e2:(rec .ready none).assign=assign:=by rw [hrec]
   have e3:(rec .ready none).body=body:=by rw [hrec]
   rw [e2,e3];refine wpIn_mono hr ?_;intro e a1 w1 he;cases e with
   |normal=>
    obtain ⟨M,hM,hb⟩:=he
    have hM':Sat w0 w1 (pt l (.loop (rec .ready none))::(M++(pt D (.deferred (some []))::U))):=hM.perm (by
     rw [<-adQ];exact akF (l₁:=M++(pt D (.deferred (some []))::U)) (l₂:=[pt l (.loop (rec .ready none))]))
    have hM2:=hM'.putObj (.loop { rec .ready none with state:= .busy });refine ⟨_,run_beginRound hM'.at (by rw [hrec]),?_⟩
    refine wpIn_mono (hb (pt D (.deferred (some []))::U++[pt l (.loop { rec .ready none with state:= .busy })]) _ (hM2.perm (by
     rw [<-aeI,<-adQ];exact (akF (l₁:=[pt l (.loop { rec .ready none with state:= .busy })]) (l₂:=M++(pt D (.deferred (some []))::U)))))) ?_
    rintro e2 a2 w2 ⟨rfl,hS2⟩
    have hS3:Sat w0 w2 (pt l (.loop { rec .ready none with state:= .busy })::(R (pre++[x])++(pt D (.deferred (some []))::U))):=hS2.perm (by
     rw [<-adQ];exact akF (l₁:=R (pre++[x])++(pt D (.deferred (some []))::U)) (l₂:=[pt l (.loop { rec .ready none with state:= .busy })]))
    refine ⟨_,_,run_endRound none hS3.at,rfl,?_⟩;have hS4:=hS3.putObj (.loop (rec .ready none));have e4:(Obj.loop { { rec .ready none with state:= .busy } with state:=if (none:Option Code).isNone then .ready else .done,pending:=none })=.loop (rec .ready none):=by rw [hrec];rfl
    rw [e4];refine hS4.perm ?_;rw [adQ];exact apb.symm
   |exit id=>exact he.elim
   |goto t=>exact he.elim
   |ret=>exact he.elim
   |panic c=>exact he.elim
   |outgrown=>exact he.elim
  ·refine hS1.perm ?_;rw [<-adQ];exact (akF (l₁:=[pt l (.loop (rec .ready none)),pt D (.deferred (some []))]) (l₂:=A++R []))
  ·rintro e W2 ⟨v,rfl,hS⟩
   have hS':Sat w0 W2 (pt l (.loop (rec .ready none))::(A'++(R kv++[pt D (.deferred (some []))]))):=hS.perm (by
    rw [<-adQ,<-adQ];exact apb)
   refine ⟨none,_,by have:=run_endLoop (P:=P) hS'.at (by rw [hrec];simp);rw [show (rec .ready none).pending=none by rw [hrec]]at this;exact this,?_⟩;exact hdone D _ (hS'.putObj _).drop
theorem Z8 {fn:Func}{tmps:Array Value}{K:Ending->World->Prop}{D:Nat}{v:Value} (h:Sat w0 w (pt D (.deferred (some []))::F)) (hv:∀ w,(results fn tmps).run P w=.ok v w) (hK:∀ w',Sat w0 w' F->K (.returned v) w') :
  LeavesInM Fence.wide 0 P fn tmps K [{ target:= .collected D,args:=#[] }] .returning w:=
 ⟨by simp,.inl ⟨_,_,rfl,run_takeDeferred h.at,⟨_,hv _,hK _ ((h.putObj (.deferred none)).drop)⟩⟩⟩
def OX (P:Program) (fn:Func) (K:Ending->World->Prop):Exit->Act->World->Prop
 |.normal,a,w | .ret,a,w=>LeavesInM Fence.wide 0 P fn a.tmps K a.defers .returning w
 |_,_,_=>False
theorem WS {f:FuncId}{fn:Func}{c:Code}{args:Array Value}{K:Ending->World->Prop} (hf:P.funcs[f]?=some fn) (hb:fn.body=some c)
  (h:c.wp P (OX P fn K) { tmps:=args++Array.replicate (fn.ntmps-args.size) undef,defers:=[] } w):Calls P f args w K:=
 (callsIn_wide (n:=0)).1 (callsIn_of_wp_marks hf hb trivial (wpIn_wide.2 (wp_mono h λe a w he=>by
  cases e with
  |normal=>exact he
  |ret=>exact he
  |_=>exact he.elim)) rfl)
theorem ag7 {fn:Func}{a:Act}{K:Ending->World->Prop}{D:Nat}{v:Value} (ha:a.defers=[{ target:= .collected D,args:=#[] }]) (h:Sat w0 w (pt D (.deferred (some []))::F)) (hv:∀ w,(results fn a.tmps).run P w=.ok v w)
  (hK:∀ w',Sat w0 w' F->K (.returned v) w'):OX P fn K .normal a w:=by
 show LeavesInM Fence.wide 0 P fn a.tmps K a.defers .returning w;rw [ha];exact Z8 h hv hK
end
end Go
namespace Go.Proofs.Y
open Go.ay
def zO (x:aj.Bs×Rep.dY):Array Value:=#[.agg (aA x.1).toArray,.agg (fM x.2).toArray]
theorem afe (h:Sat w0 w F):Calls prog 158 #[ptr p] w
  (aP λv w'=>∃ b,v=.func (.func 192) #[] #[ptr b]/\Sat w0 w' (pt b (.cells #[ptr p] 188 (0,0))::F)):=by
 go_enter func158,ntmps158;go_wp2_with (first|((with_reducible refine fD ⟨?_⟩);refine fE aQ ak ak ?_;intro bB wB hB)|(with_reducible apply fB));go_ret;exact ⟨_,rfl,bB,rfl,hB⟩
theorem aaq {p : Prop} (h : p := by
 intro ly R hY W hW;have Hl:=uQ hl;have hW0:Sat w0 W (DW p m B::pt b (.cells #[ptr p] zi (0,0))::R []):=hW;clear hW hl;show Calls prog L6 #[.func (.yield ly) #[] #[],ptr b] W _;go_enter ada,adb;have hr:=ade hB hW0;go_wp2_with ((with_reducible refine bP ⟨?_⟩);refine fZ hW0 ah bJ bI ak au ?_);clear hW0;refine hr.mono ?_;rintro ee w1 ⟨sv,rfl,s,⟨hs1,hs2,hs3⟩,hS1⟩;clear hr;have e0:l=s.map λx=>(x.key,x.val):=Hl.o.unique hs1;clear hs1 Hl;subst e0;have rY:=uQ hs2;have VI:=uQ hs3;have Hlen:=uQ (show ∀ x∈s,(slotL jQ x).length=nM from λx hx=>lS jQ x (hs2 x hx).2 Bd (LZ _));obtain ⟨la,lc,rfl⟩:=jK Hlen.o (Sat.rd hS1) aN;have hsb:s.length<=13000000:=adt hs3 hB;clear hs2 hs3 hB;go_wp2_with fail
 go_loopg [8] s.length (λg iq wr=>∃ (i:Nat),g=s.length-i/\i<=s.length/\iq=.int .i64 i /\
  Sat w0 wr (aC pJ nM (.slice la s.length lc) (s.flatMap (slotL jQ))::DW p m B::pt b (.cells #[ptr p] zi (0,0))::R (((s.take i).map λx=>(x.key,x.val)).map xB)))
 case atStart=>exact ⟨0,rfl,aea _,rfl,hS1⟩
 case round=>
  obtain ⟨i,rfl,hi,rfl,hS⟩:=hrel;clear hS1;by_cases hlt:i<s.length;rotate_left
  ·obtain rfl:i=s.length:=by ((try simp only [pJ,nM,Bd,zi,L6] at *);omega)
   have c1:¬ (s.length:Int)<(s.length:Int):=oQ;rw [aeo]at hS;clear hlt hi;go_wp2_with fail
   go_end0
   exact ⟨_,rfl,by rw [<-aeW];exact hS.drop⟩
  have c1:(i:Int)<(s.length:Int):=oQ;have hwi:=CS (i:=i);obtain ⟨x,hx⟩:∃ x,s[i]?=some x:=⟨_,aay hlt⟩;have hxm:=abA hx;have Hxk:=uQ (rY.o x hxm).2;obtain ⟨bk,off,c',hsv,hcell⟩:=jd Hlen.o (Sat.rd (hS.pick aU)) hx aN;cases hsv;have jo:=Hlen.o x hxm;have eG:=uQ (show s.take (i+1)=s.take i++[x] by rw [aeK,hx,afw]);have bT:=uQ hlt
  have IE:=uQ (show (s.map λx=>(x.key,x.val)).map xB=((s.take i).map λx=>(x.key,x.val)).map xB++xB (x.key,x.val)::((s.drop (i+1)).map λx=>(x.key,x.val)).map xB by
   have e:s=s.take i++x::s.drop (i+1):=by
    obtain ⟨h1,rfl⟩:=abm.1 hx;rw [<-ah3 h1,aeS]
   conv=>lhs;rw [e]
   simp only [adU,ad7])
  clear hx hxm hlt hi
  go_wp2_with (first
   |((with_reducible refine bP ⟨?_⟩);refine iR (b:=bk) (o:=off+i*nM) (slotL jQ x) ah hcell adf rfl yX0 ?_)
   |(with_reducible apply fB))
  refine ⟨eF adg hS rfl ?_⟩;intro b7 w7 hS7;go_wp2_with ((with_reducible apply dh));refine ⟨fP (slotL jQ x).toArray hS7 ah ah (by rw [abn,jo];rfl) cZ yQ0 (by rw [ad6];exact rM jQ x (Ui _)) ?_⟩;intro w10 fK;clear hS hS7 hcell;have f1:w10.rangeAt b7 1 (aA x.key):=DJ (fK.pick aU);have f2:w10.rangeAt b7 33 (jQ x.val):=anf Hxk.o (fK.pick aU);have e1:=underlying50
  have tV:Sat w0 w10 (R (((s.take i).map λx=>(x.key,x.val)).map xB)++[aC pJ nM (.slice (some ⟨bk,off,none⟩) s.length lc) (s.flatMap (slotL jQ)),DW p m B,pt b (.cells #[ptr p] zi (0,0))]):=
   (fK.drop:Sat w0 w10 ([aC pJ nM (.slice (some ⟨bk,off,none⟩) s.length lc) (s.flatMap (slotL jQ)),DW p m B,pt b (.cells #[ptr p] zi (0,0))]++R (((s.take i).map λx=>(x.key,x.val)).map xB))).IX
  obtain ⟨yf,yt,ya,yb,hy,hr⟩:=hY _ _ _ w10 _ IE.o tV;clear tV fK hY
  go_step
  go_step
  go_step
  refine alA ah ?_;intro K hK
  go_wp2_with (first
   |((with_reducible refine bP ⟨?_⟩);refine iR (b:=b7) (o:=1) (aA x.key) ah f1 e1 rfl yS0 ?_)
   |((with_reducible refine bP ⟨?_⟩);refine iR (b:=b7) (o:=33) (jQ x.val) ah f2 adh rfl au ?_))
  refine ⟨_,yf,yt,ya,yb,hy,hr.mono ?_⟩;rintro ee w12 ⟨rfl,mM⟩;refine ⟨_,rfl,?_⟩;have uY:Sat w0 w12 (aC pJ nM (.slice (some ⟨bk,off,none⟩) s.length lc) (s.flatMap (slotL jQ))::DW p m B::pt b (.cells #[ptr p] zi (0,0))::R (((s.take (i+1)).map λx=>(x.key,x.val)).map xB)):=by
   have:=mM.IX;rw [eG.o,adU,adU];exact this
  clear mM hr hy f1 f2;go_wp2_with fail
  go_roundg (s.length-(i+1))
  case measure=>have:=bT.o;((try simp only [pJ,nM,Bd,zi,L6] at *);omega)
  case rel=>exact ⟨i+1,rfl,bT.o,by first|rfl|go_num,uY⟩) : p := h
abbrev fH.DW:=@gJ
abbrev fH.zi:Nat:=188
abbrev fH.L6:Nat:=192
theorem fH.ada:type_of% @func192:=@func192
theorem fH.adb:type_of% @ntmps192:=@ntmps192
theorem fH.ade:type_of% @abU:=@abU
abbrev fH.xB:=@zO
theorem fH.adf:type_of% @underlying289:=@underlying289
theorem fH.adg:type_of% @BF:=@BF
theorem fH.adh:type_of% @underlying191:=@underlying191
open fH in
theorem afd {b:Nat}{l:List (aj.Bs×Rep.dY)} (hB:B<=13000000) (hl:Tab.Lists m l) :
  Iter prog 192 #[ptr b] (l.map zO) w0 [gJ p m B,pt b (.cells #[ptr p] 188 (0,0))] [gJ p m B,pt b (.cells #[ptr p] 188 (0,0))]:=aaq
def aH (p:Nat) (m:aj.Bs->Option (Seg.aV)) (B:Nat):aG:=λh=>∃ (t:Tab.Tb (Seg.aV)) (sv:Value),(t.Ok/\t.Is m/\t.n+t.gone<=B)/\stars [iI p 166 sv t.n t.gone,aC 164 36 sv (t.slots.flatMap (slotL aW))] h
theorem ou:jF prog 94=some (.agg (aW Seg.aV.zero).toArray):=by kernel_rfl
section
variable {m:aj.Bs->Option (Seg.aV)}{t:Tab.Tb (Seg.aV)}
theorem aH.open (h:Sat w0 w (aH p m B::F)):∃ (t:Tab.Tb (Seg.aV)) (sv:Value),(t.Ok/\t.Is m/\t.n+t.gone<=B)/\Sat w0 w (iI p 166 sv t.n t.gone::aC 164 36 sv (t.slots.flatMap (slotL aW))::F):=by
 obtain ⟨ha,x,hx,q,r,dd,rfl,⟨t,sv,hin,hp⟩,hq⟩:=h;refine ⟨t,sv,hin,ha,_,hx,?_⟩;show stars ([iI p 166 sv t.n t.gone,aC 164 36 sv (t.slots.flatMap (slotL aW))]++F) _;rw [qO];exact ⟨q,r,dd,rfl,hp,hq⟩
theorem aH.shut (h1:t.Ok) (h2:t.Is m) (h3:t.n+t.gone<=B) (h:Sat w0 w (iI p 166 sv t.n t.gone::aC 164 36 sv (t.slots.flatMap (slotL aW))::F)):Sat w0 w (aH p m B::F):=
 Sat.join (M:=[iI p 166 sv t.n t.gone,aC 164 36 sv (t.slots.flatMap (slotL aW))]) h λ_ hx=>⟨t,sv,⟨h1,h2,h3⟩,hx⟩
theorem aaB (h:Sat w0 w F):Calls prog 112 #[] w (aP λv w'=>∃ p,v=ptr p/\Sat w0 w' (aH p (λ_=>none) 0::F)):=by
 go_enter func112,ntmps112
 go_wp2_with (first
  |((with_reducible refine at_make ⟨?_⟩);refine Me (e:=164) (sz:=36) (eX:=64) (n:=8) au xC h ah ah aN aN ?_;intro bM wM hM)
  |((with_reducible refine fD ⟨?_⟩);refine fE hM ak ak ?_;intro bB wB hB))
 go_ret;refine ⟨_,rfl,bB,rfl,?_⟩;have e:(List.replicate 8 (slotL aW ⟨0,aj.zero32,xG⟩)).flatten=(List.replicate 8 (⟨0,aj.zero32,xG⟩:Tab.Slot (Seg.aV))).flatMap (slotL aW):=(KU 8 _).symm;rw [e]at hB;exact aH.shut (t:=⟨List.replicate 8 ⟨0,aj.zero32,xG⟩,0,0⟩) (Tab.QN aN rfl) (Tab.QM rfl 0 0) (abl 0) hB
theorem fJ.LV:type_of% @aH.open:=@aH.open
theorem fJ.TW:type_of% @func98:=@func98
theorem fJ.TY:type_of% @ntmps98:=@ntmps98
theorem fJ.LX:type_of% @ou:=@ou
abbrev fJ.uI:=@xG
abbrev fJ.lU:Nat:=94
theorem fJ.LY:type_of% @Dh:=@Dh
theorem fJ.DU:type_of% @O1:=@O1
theorem fJ.zf:type_of% @underlying94:=@underlying94
theorem fJ.DV:type_of% @aH.shut:=@aH.shut
open fJ in
theorem Ph (hB:B<=268435000) (hk:k.length=32) (h:Sat w0 w (aH p m B::F)) :
  Calls prog 98 #[ptr p,.agg (aA k).toArray] w (aP λv w'=>v=.tuple #[.agg (aW ((m k).getD Seg.aV.zero)).toArray,.bool (m k).isSome]/\Sat w0 w' (aH p m B::F)):=QA
end
section
variable {m:aj.Bs->Option (Seg.aV)}{t:Tab.Tb (Seg.aV)}
theorem fJ.Ua:type_of% @func147:=@func147
theorem fJ.Ub:type_of% @ntmps147:=@ntmps147
abbrev fJ.og:Nat:=64
abbrev fJ.qp:=@Seg.aV
open fJ in
theorem RN (ok:t.Ok) (hN:t.n<=N) (hNb:N<=134217728) (Zb:t.slots.length<=1073741824) (h:Sat w0 w (iI p 166 sv t.n t.gone::aC 164 36 sv (t.slots.flatMap (slotL aW))::F)) :
  Calls prog 147 #[ptr p,.int .i64 N] w (aP λ_ w'=>∃ s' sv',Tab.wz t s' N/\Sat w0 w' (iI p 166 sv' t.n 0::aC 164 36 sv' (s'.flatMap (slotL aW))::F)):=QB
end
theorem acE (k:aj.Bs) (hk:k.length=32) (v:Seg.aV) (w:World) :
  (Instr.build 164 #[(0,.int .i64 1),(1,.agg (aA k).toArray),(2,.agg (aW v).toArray)]).run prog w=.ok (.agg (slotL aW ⟨1,k,v⟩).toArray) w:=by
 have hbk:(aA k).toArray.size=32:=by rw [abn,aX,hk]
 refine (apP (P:=prog) [(0,.int .i64 1),(1,.agg (aA k).toArray),(2,.agg (aW v).toArray)] abk xC (by
  intro p' hp;simp only [ad5,ah4,apX]at hp;have hzz:(Value.agg (slotL aW (⟨0,aj.zero32,xG⟩:Tab.Slot (Seg.aV))).toArray).cells.size=36:=by
   show (slotL aW (⟨0,aj.zero32,xG⟩:Tab.Slot (Seg.aV))).toArray.size=36;rw [abn,lS aW _ aN 3 rfl]
  rw [hzz];rcases hp with rfl|rfl|rfl
  ·exact ⟨0,rfl,by show 0+1<=36;omega⟩
  ·refine ⟨1,?_,?_⟩
   ·show some (1,32)=some (1,(aA k).toArray.size);rw [hbk]
   ·show 1+(aA k).toArray.size<=36;omega
  ·exact ⟨33,rfl,by show 33+3<=36;omega⟩) w).trans ?_
 rw [show (Value.agg (slotL aW (⟨0,aj.zero32,xG⟩:Tab.Slot (Seg.aV))).toArray).cells=(slotL aW (⟨0,aj.zero32,xG⟩:Tab.Slot (Seg.aV))).toArray from rfl,Rt aW ⟨0,aj.zero32,xG⟩ k v aN hk rfl 3 rfl]
section
variable {m:aj.Bs->Option (Seg.aV)}
theorem fJ.Uc:type_of% @func96:=@func96
theorem fJ.Ud:type_of% @ntmps96:=@ntmps96
theorem fJ.Ue:type_of% @RN:=@RN
theorem fJ.Uf:type_of% @acE:=@acE
open fJ in
theorem KG (hB:B<=134217000) (hk:k.length=32) (v:Seg.aV) (h:Sat w0 w (aH p m B::F)) :
  Calls prog 96 #[ptr p,.agg (aA k).toArray,.agg (aW v).toArray] w (aP λ_ w'=>Sat w0 w' (aH p (Tab.put m k v) (B+1)::F)):=QC
end
abbrev fJ.jQ:=@aW
abbrev fJ.pJ:Nat:=164
theorem fJ.ac5:type_of% @func181:=@func181
theorem fJ.ac6:type_of% @ntmps181:=@ntmps181
open fJ in
theorem W9 (x y:Tab.Slot (Seg.aV)) (hx:x.key.length=32) (hy:y.key.length=32) (W:World) :
  Calls prog 181 #[.agg (slotL aW x).toArray,.agg (slotL aW y).toArray] W λe w'=>e=.returned (.int .i64 (Lib.compareBytes x.key y.key))/\∃ q os',w'=Sort.grow (W.drewN q) os':=aao
end Go.Proofs.Y
