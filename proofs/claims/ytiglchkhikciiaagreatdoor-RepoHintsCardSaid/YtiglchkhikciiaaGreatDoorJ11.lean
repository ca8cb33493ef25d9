import Derived.Test.YtiglchkhikciiaaGreatDoorJ10
import Derived.Laws.StructEq
set_option linter.unusedVariables false
set_option maxHeartbeats 128000000
namespace Go.Rep
open Go.aj (Bs fO aP jf encs iw)
open Go.Seg (aU mag)
open Go.Tab
def eX (l:List Row) (k:Bs):Option aU:=(newest l k).bind fun r=>if eu r=0 then some (jV r) else none
def kK (es:List aP) (k:Bs):Option Bs:=(nD es k).bind fun e=>if e.tag=0 then some e.data else none
section
variable {l:List Row}{r:Row}{k:Bs}{es:List aP}{x:aP}{C:List (List aP)}
theorem aeZ (h:eu r=0):eX (l++[r])=Tab.put (eX l) (fZ r) (jV r):=by
 funext k
 unfold eX Tab.put
 rw [zK]
 by_cases hk:k=fZ r
 ·rw [ac3 ⟨by rw [h];decide,hk.symm⟩,ac3 hk]
  show (if eu r=0 then some (jV r) else none)=_
  rw [ac3 h]
 ·rw [abw (fun q=>hk q.2.symm),abw hk]
theorem aeY (h:eu r=1):eX (l++[r])=Tab.del (eX l) (fZ r):=by
 funext k
 unfold eX Tab.del
 rw [zK]
 by_cases hk:k=fZ r
 ·rw [ac3 ⟨by rw [h];decide,hk.symm⟩,ac3 hk]
  show (if eu r=0 then some (jV r) else none)=_
  rw [abw (by rw [h];decide)]
 ·rw [abw (fun q=>hk q.2.symm),abw hk]
theorem aeW (h:eu r=2):eX (l++[r])=eX l:=by
 funext k
 unfold eX
 rw [zK,abw (fun q=>q.1 h)]
theorem Vj (l:List Row) (k:Bs):(eX l k).isSome=(kK (l.map (·.2.e)) k).isSome∧∀ r,newest l k=some r→eu r=0→kK (l.map (·.2.e)) k=some r.2.e.data:=by
 have e:=Vb l k
 unfold eX kK
 rw [← e]
 cases hn:newest l k with
 |none=>exact ⟨rfl,fun r hr=>by cases hr⟩
 |some r=>
  refine ⟨?_,fun r' hr h0=>?_⟩
  ·show (if eu r=0 then some (jV r) else none).isSome=(if r.2.e.tag=0 then some r.2.e.data else none).isSome
   unfold eu
   split <;> rfl
  ·cases hr
   show (if r.2.e.tag=0 then some r.2.e.data else none)=_
   rw [ac3 (show r.2.e.tag=0 from h0)]
theorem aeX {p:aU} (h:eX l k=some p):∃ r∈l,jV r=p∧eu r=0∧fZ r=k∧kK (l.map (·.2.e)) k=some r.2.e.data:=by
 have h':=h
 unfold eX at h
 obtain ⟨r,h1,h2⟩:=Option.bind_eq_some_iff.1 h
 obtain ⟨h3,h4,h5⟩:=FV h1
 split at h2
 ·rename_i h6
  cases h2
  exact ⟨r,h3,rfl,h6,h5,(Vj l k).2 r h1 h6⟩
 ·cases h2
theorem ae8 (h:x.tag=0):kK (es++[x])=Tab.put (kK es) x.key x.data:=by
 funext k
 unfold kK Tab.put
 rw [LC]
 by_cases hk:k=x.key
 ·rw [ac3 ⟨by rw [h];decide,hk.symm⟩,ac3 hk]
  show (if x.tag=0 then some x.data else none)=_
  rw [ac3 h]
 ·rw [abw (fun q=>hk q.2.symm),abw hk]
theorem ae7 (h:x.tag=1):kK (es++[x])=Tab.del (kK es) x.key:=by
 funext k
 unfold kK Tab.del
 rw [LC]
 by_cases hk:k=x.key
 ·rw [ac3 ⟨by rw [h];decide,hk.symm⟩,ac3 hk]
  show (if x.tag=0 then some x.data else none)=_
  rw [abw (by rw [h];decide)]
 ·rw [abw (fun q=>hk q.2.symm),abw hk]
theorem ae6 (h:x.tag=2):kK (es++[x])=kK es:=by
 funext k
 unfold kK
 rw [LC,abw (fun q=>q.1 h)]
theorem MP {kv:List (Bs×dF)} (h:Tab.Lists (ledger l) kv):Tab.mapOf (puts kv)=eX l:=by
 have hl:=Tab.U1 (MQ h.rise)
 funext k
 have key:∀ p,Tab.mapOf (puts kv) k=some p↔eX l k=some p:=fun p=>by
  rw [← hl.mem]
  unfold puts eX
  rw [acK,Option.bind_eq_some_iff]
  constructor
  ·rintro ⟨q,hq,e⟩
   obtain ⟨h1,h2⟩:=aji.1 hq
   have h3:=(h.mem q.1 q.2).1 h1
   unfold ledger at h3
   obtain ⟨r,h4,h5⟩:=akk.1 h3
   have e1:q.1=k:=aje Prod.fst e
   have e2:q.2.place=p:=aje Prod.snd e
   refine ⟨r,by rw [← e1];exact h4,?_⟩
   have ht:q.2.tag=0:=by simpa using h2
   rw [← h5]at ht e2
   simp only at ht e2
   rw [ac3 ht,e2]
  ·rintro ⟨r,h1,h2⟩
   split at h2
   ·rename_i ht
    cases h2
    refine ⟨(k,⟨eu r,jV r,first l k⟩),aji.2 ⟨(h.mem _ _).2 (by unfold ledger;rw [h1];rfl),by simpa using ht⟩,rfl⟩
   ·cases h2
 cases hn:eX l k with
 |some p=>exact (key p).2 hn
 |none=>
  cases hm:Tab.mapOf (puts kv) k with
  |none=>rfl
  |some p=>rw [(key p).1 hm]at hn;cases hn
theorem RI:∀ (es:List aP) (a:Nat) (x:aP),jf (es++[x]) a=jf es a++[⟨x,a+(encs es).length,(aj.encode x).1.length⟩]
 |[],a,x=>by show [_]=[_];rw [show (encs []).length=0 from rfl,akc]
 |y::es,a,x=>by
  rw [ajN,jf,jf,RI es _ x,ajN]
  rw [show encs (y::es)=(aj.encode y).1++encs es from rfl,aal,akU]
theorem Gv:∀ (C D:List (List aP)) (k:Nat),dJ k (C++D)=dJ k C++dJ (k+C.length) D
 |[],D,k=>rfl
 |es::C,D,k=>by
  rw [ajN]
  show _++dJ (k+1) (C++D)=(_++dJ (k+1) C)++_
  rw [Gv C D (k+1),adR,aja,show k+1+C.length=k+(C.length+1) by omega]
def putRow (C:List (List aP)) (b:Bool) (x:aP):Row:=
 if b then (((C.length - 1:Nat):Int),⟨x,8+(encs (C.getLastD [])).length,(aj.encode x).1.length⟩) else ((C.length:Int),⟨x,8,(aj.encode x).1.length⟩)
theorem WQ (C:List (List aP)) (b:Bool) (x:aP) (hb:b=true→C≠[]):dJ 0 (Seg.put C b x)=dJ 0 C++[putRow C b x]:=by
 cases b with
 |true=>
  have hne:=hb rfl
  unfold Seg.put putRow
  simp only [akL]
  rw [Gv]
  conv=>rhs;rw [Seg.Dh hne,Gv]
  rw [adR]
  congr 1
  show _++[]=(_++[])++_
  rw [afo,afo,RI,aey,ajr,aen]
  have hg:(C.dropLast++[C.getLastD []]).getLastD []=C.getLastD []:=by rw [List.getLastD_eq_getLast?,List.getLast?_concat];rfl
  have hlen:(C.dropLast++[C.getLastD []]).length=C.length:=by rw [← Seg.Dh hne]
  rw [hg,hlen]
  rfl
 |false=>
  unfold Seg.put putRow
  simp only [ajK,akO]
  rw [Gv]
  congr 1
  show _++[]=_
  rw [afo,aen]
  rfl
theorem VP (C:List (List aP)) (b:Bool) (x:aP):(putRow C b x).2.e=x:=by
 unfold putRow;split <;> rfl
end
end Go.Rep
namespace Go.Seg
open Go.ay
open Go.aj (Bs aP encs iw)
open Go.Rep
section
variable {K r E B n:Nat}{L:Log}{M:ay}{C:List (List aP)}{x:aP}
theorem HG.ZX (h:HG K r E B n L M C) (h0:(aj.encode x).2=0) (hz:(L.append M x).2.2=0):(L.append M x).2.1=jV (putRow C (L.fits (aj.encode x).1.length) x):=by
 cases hf:L.fits (aj.encode x).1.length with
 |true=>
  rw [Log.xK h0 hf]at hz ⊢
  obtain ⟨s,hl⟩:=h.keeps.log.last (BJ hf)
  have hl':=hl
  rw [ajS]at hl'
  have hlt:=(abl.1 hl').1
  have hlen:=h.len
  have hne:C≠[]:=by intro e;rw [e,ajn]at hlen;omega
  have hcl:C[L.l.length - 1]?=some (C.getLastD []):=by
   conv=>lhs;rw [Dh hne]
   rw [adQ (by rw [ajr];omega),ajr,show L.l.length - 1 - (C.length - 1)=0 by omega];rfl
  have hat:=h.at_ _ _ hcl
  rw [hl']at hat
  cases hat
  unfold Log.grow at hz ⊢
  rw [hl]at hz ⊢
  simp only at hz ⊢
  split at hz
  ·rename_i g
   rw [ac3 g]
   unfold putRow jV
   simp only [akL]
   rw [hlen]
   rfl
  ·rename_i g
   exact absurd hz g
 |false=>
  rw [Log.xJ h0 hf]at hz ⊢
  obtain ⟨_,s2,s3,_,_⟩:=h.keeps.shut
  have hnx:(L.shut M).1.1.next=C.length:=by
   have:=h.next
   unfold Log.next at this ⊢
   rw [s3];exact this
  unfold Log.begin at hz ⊢
  rw [ac3 s2]at hz ⊢
  generalize (L.shut M).1.1=L1 at *
  generalize (L.shut M).1.2=M1 at *
  unfold Log.je at hz ⊢
  by_cases g2:1048576≤L1.next
  ·rw [ac3 g2]at hz
   exact absurd (show (16:Int)=0 from hz) aN
  rw [abw g2]at hz ⊢
  by_cases g3:(M1.create (name L1.next)).2=0
  rotate_left
  ·rw [ac3 g3]at hz
   exact absurd hz g3
  rw [abw (fun q=>q g3)]at hz ⊢
  by_cases g4:((M1.create (name L1.next)).1.append (name L1.next) (mag++(aj.encode x).1)).2=0
  ·rw [ac3 g4,hnx]
   rfl
  rw [abw g4]at hz
  split at hz
  ·simp only at hz
   split at hz
   ·exact absurd hz aN
   ·rename_i g5;exact absurd hz g5
  ·exact absurd hz g4
theorem HG.BI (h:HG K r E B n L M C){k:Nat}:L.fits k=true→C≠[]:=fun hf=>by
 have h1:=h.keeps.log.on (BJ hf)
 intro e
 have:=h.len
 rw [e,ajn]at this
 exact h1 (aj2 this)
end
end Go.Seg
namespace Go.Proofs.YtiglchkhikciiaaGreatDoor
open Go Go.Sl Go.ay Go.MapKept Go.RowKit
section
variable {P:Program}{d:Nat}{xs:Array Value}
theorem Rh:∀ (fs:List Field),(∀ f∈fs,∃ a,(∀ w,(part f.type xs f.offset).run P w = .ok a w)∧∀ w,(Op.equalIn d f.type a a).run P w = .ok true w)→∀ w,(Op.eqFields d xs xs fs).run P w = .ok true w
 |[],_,w=>by simp [Op.eqFields]
 |f::fs,h,w=>by
  obtain ⟨a,h1,h2⟩:=h f (.head _)
  have ih:=Rh fs (fun g hg=>h g (.tail _ hg)) w
  unfold Op.eqFields
  split
  ·simp only [adO,h1,h2,ac2,Bool.not_true,ajK,akO,ih]
  ·exact ih
theorem abQ (T:TypeId) (l:List (TypeId×Nat)) (ht:P.underlying T=some (.struct (P.fieldsOf T))) (hp:P.stoodInHeld T=false) (hl:((P.fieldsOf T).toList.map fun f=>(f.type,f.offset))=l)
  (h:∀ q∈l,∃ a,(∀ w,(part q.1 xs q.2).run P w = .ok a w)∧∀ w,(Op.equalIn d q.1 a a).run P w = .ok true w) (w:World):(Op.equalIn (d+1) T (.agg xs) (.agg xs)).run P w = .ok true w:=by
 rw [run_equalIn_struct w d T xs xs ht hp]
 refine Rh _ (fun f hf=>?_) w
 exact h (f.type,f.offset) (by rw [← hl];exact acK.2 ⟨f,hf,rfl⟩)
theorem MJ {e:TypeId}{k:IntKind} (he:P.underlying e=some (.int k)) (i:Nat) (z:Int) (hv:xs[i]?=some (.int k z)):∃ a,(∀ w,(part e xs i).run P w = .ok a w)∧∀ w,(Op.equalIn (d+1) e a a).run P w = .ok true w:=
 ⟨_,fun w=>NI he xs i _ hv w,fun w=>by rw [run_equalIn_int w d e k k z z he];simp⟩
end
theorem abO (a b c:Int) (w:World):(Op.equalIn 10000 73 (.agg #[.int .i64 a,.int .i64 b,.int .i64 c]) (.agg #[.int .i64 a,.int .i64 b,.int .i64 c])).run Tryz.prog w = .ok true w:=by
 refine abQ (d:=9999) 73 [(3,0),(3,1),(3,2)] au au au (fun q hq=>?_) w
 simp only [aer,ajU,alb]at hq
 rcases hq with rfl|rfl|rfl
 ·exact MJ Tryz.underlying3 0 a rfl
 ·exact MJ Tryz.underlying3 1 b rfl
 ·exact MJ Tryz.underlying3 2 c rfl
section
variable {P:Program}{T:TypeId}{cs:Array Value}
theorem aeL (h:∀ w,(Op.equalIn 10000 T (.agg cs) (.agg cs)).run P w = .ok true w) (w:World):(binOp .neq T (.agg cs) (.agg cs)).run P w = .ok (.bool false) w:=by
 rw [run_neq_struct,h];rfl
end
end Go.Proofs.YtiglchkhikciiaaGreatDoor
namespace Go.aj
end Go.aj
namespace Go.Proofs.YtiglchkhikciiaaGreatDoor
open Go Go.Sl Go.ay Go.MapKept Go.RowKit
section
variable {w0 w:World}{F:List aG}{av bv v:Value}
set_option maxRecDepth 20000 in
theorem aha (l:List Rep.Use) (ha:Ro w0 F (bg 3 av (l.flatMap bI))) (hb:Ro w0 F (bg 3 bv (l.flatMap bI))) (h:Sat w0 w F) (hlen:l.length≤1073741824) :
  Calls Tryz.prog 18 #[av,bv] w (aO fun v w'=>v = .bool true∧Sat w0 w' F):=by
 have jZ:=uQ (show ∀ q∈l,(bI q).length=3 from fun q hq=>uK q)
 obtain ⟨aa,ac,rfl⟩:=iD jZ.out (ha w h) aN
 obtain ⟨ba,bc,rfl⟩:=iD jZ.out (hb w h) aN
 have Ha:=uQ ha;have Hb:=uQ hb;have Hlen:=uQ hlen
 clear ha hb hlen
 go_enter Tryz.func18,Tryz.ntmps18
 go_wp2_with fail
 go_loopg [5] l.length (fun g iq wr=>∃ i:Nat,g=l.length - i∧i≤l.length∧iq = .int .i64 i∧Sat w0 wr F)
 case atStart=>exact ⟨0,rfl,afm _,rfl,h⟩
 case round=>
  obtain ⟨i,rfl,hiN,rfl,hS⟩:=hrel
  clear h
  by_cases hi:i<l.length
  ·have hic:(i:Int)<(l.length:Int):=by omega
   have hwi:IntKind.i64.wrap ((i:Int)+1)=(i:Int)+1:=acI _ (by have:=Hlen.out;omega)
   obtain ⟨q,hq⟩:∃ q,l[i]?=some q:=⟨_,aak hi⟩
   have hS1:=hS.drew
   obtain ⟨bk,off,c',e1,d1⟩:=iC jZ.out (Ha.out _ hS1) hq aN
   obtain ⟨bk2,off2,c2',e2,d2⟩:=iC jZ.out (Hb.out _ hS1) hq aN
   cases e1;cases e2
   have Hi:=uQ hi
   clear hq hi hiN
   go_wp2_with fail
   refine dH [8] (fun w'=>w'.rangeAt bk (off+i * 3) (bI q)∧w'.rangeAt bk2 (off2+i * 3) (bI q)) au ?_
   have hG:World.rangeAt _ bk (off+i * 3) (bI q)∧World.rangeAt _ bk2 (off2+i * 3) (bI q):=And.intro d1 d2
   refine rP 0 ?_ (y:=aX)
   refine rP 1 ?_ (y:=aX)
   refine rP 2 ?_ (y:=gX)
   refine eP 3 ak au bK (ig (b:=bk) (o:=off+i * 3) (bI q) ah Tryz.underlying73 rfl au (fun w hw=>hw.1)) aQ gQ ?_
   refine rP 4 ?_ (y:=aX)
   refine rP 5 ?_ (y:=aX)
   refine rP 6 ?_ (y:=gX)
   refine eP 7 ak au bK (ig (b:=bk2) (o:=off2+i * 3) (bI q) ah Tryz.underlying73 rfl au (fun w hw=>hw.2)) aQ gQ ?_
   clear hG d1 d2
   refine Gq 8 ak au bK (wY ak ak (fun w=>by
    have:=aeL (abO q.seg q.size q.live) w
    unfold bI
    simp [eqGuard,this];rfl)) gQ ?_
   refine dD au ?_
   try simp only [iO]
   try go_frame
   go_wp2_with fail
   go_roundg (l.length - (i+1))
   case measure=>have:=Hi.out;omega
   case rel=>exact ⟨i+1,rfl,aiy Hi.out,by first|rfl|go_num,hS1⟩
  ·obtain rfl:i=l.length:=by omega
   have hic:¬ (l.length:Int)<(l.length:Int):=oQ
   clear hi hiN
   go_wp2_with fail
   go_ret
   exact ⟨.bool true,rfl,rfl,hS⟩
end
end Go.Proofs.YtiglchkhikciiaaGreatDoor
namespace Go.Rep
open Go.aj (Bs fO)
open Go.Seg (aU)
open Go.Tab
def hit (k:Bs) (r:Row):Bool:=decide (eu r<2) && decide (fZ r=k)
section
variable {l:List Row}{k:Bs}{i:Nat}{r:Row}
end
section
variable {V:Type}
variable {l:List (Bs×V)}{x y:Bs×V}{i:Nat}
end
section
variable {l:List Row}{us:List Use}{i k:Nat}{r:Row}{u:Use}
end
end Go.Rep
namespace Go.Proofs.YtiglchkhikciiaaGreatDoor
open Go Go.Sl Go.ay Go.MapKept Go.RowKit
abbrev ajG (ps:Nat) (last:Int) (iv uv tv:Value):aG:=pt ps (.cells #[.int .i64 last,iv,uv,tv] 465 (0,0))
section
variable {w0 w:World}{F:List aG}{rv iv uv tv:Value}
end
end Go.Proofs.YtiglchkhikciiaaGreatDoor
namespace Go.Proofs.YtiglchkhikciiaaGreatDoor
open Go Go.Sl Go.ay Go.ChangeShapes Go.WideShapes Go.RowKit
section
variable {H:Type}{enc:TypeId×Value→H}{W:World}{base:Nat}{spare:Nat→Bool}{held:Bool}
theorem afj {t:TypeId}{fuel:Nat}{cs:List Value}{x:DataW H×List MemPlace}{k:Nat} (ht:Tryz.prog.underlying t=some (.array k 5)) (hk:Tryz.prog.cellsOf t=k) (h:DataW.trod enc Tryz.prog W base spare held fuel t cs=some x) :
  ∃ l:Bs,aA l=cs∧l.length=k:=by
 obtain ⟨xs,m,_,_,hl,hxl,hf⟩:=DataW.trod_array ht h
 have e1:Tryz.prog.cellsOf 5=1:=by kernel_rfl
 rw [hk]at hl
 have hz:∀ i,i<k→∃ z:Int,cs[i]?=some (.int .u8 z)∧(Lit.int .u8 z).wf=true:=by
  intro i hi
  have h0:=hf i hi
  rw [aak oQ,e1,aiw]at h0
  obtain ⟨z,q1,_,q3⟩:=DataW.trod_int Tryz.underlying5 h0
  refine ⟨z,?_,q3⟩
  have:((cs.drop i).take 1)[0]?=some (.int .u8 z):=by rw [q1];rfl
  rw [ajl,ac3 aN,akG]at this
  exact this
 obtain ⟨zs,z1,z2⟩:=UM hz
 have hcs:cs=zs.map (.int .u8):=by
  apply List.ext_getElem?
  intro i
  rw [aix]
  by_cases hi:i<k
  ·have:=(z2 i _ (aak oQ)).1
   rw [this,aak (show i<zs.length by omega)];rfl
  ·rw [ajH oQ,ajH oQ];rfl
 refine ⟨DT zs,?_,by unfold DT;rw [aaJ];exact z1⟩
 rw [Qn,hcs]
 intro z hz
 obtain ⟨i,hi,rfl⟩:=akp hz
 exact (z2 i _ (aak hi)).2
structure Yz (W:World) (p:aj.aP×Value):Prop where
 key:p.1.key.length=32
 tag:rW p.1.tag
 rd:bg 1 p.2 (aA p.1.data) W
 cap:kV p.2
end
structure PC where
 n:Int
 es:List (aj.aP×Value)
 ev:Value
 rest:Bs
 rv:Value
 bad:Bool
 at_:Int
 plain:Bool
structure PC.At (W:World) (d:PC):Prop where
 n:rW d.n
 rd:bg 34 d.ev (abN d.es) W
 cap:kV d.ev
 ents:∀ p∈d.es,Yz W p
 rr:bg 1 d.rv (aA d.rest) W
 rc:kV d.rv
 at_:rW d.at_
section
variable {H:Type}{enc:TypeId×Value→H}{W:World}{base:Nat}{spare:Nat→Bool}{held:Bool}
end
end Go.Proofs.YtiglchkhikciiaaGreatDoor
namespace Go.Seg
open Go.ay
open Go.aj (encs iw jf aP)
end Go.Seg
namespace Go.Proofs.YtiglchkhikciiaaGreatDoor
open Go Go.Sl Go.ay Go.MapKept Go.RowKit
section
variable {w0 w:World}{F R:List aG}{v bv dv x lv:Value}{p m:Nat}{L:Seg.Log}{M:ay}
end
end Go.Proofs.YtiglchkhikciiaaGreatDoor
namespace Go.Seg
open Go.ay
open Go.aj (Bs fO encs iw jf aP)
open Go.Rep
section
variable {n n2:Nat}{ds ps:List aP}{L L2:Log}{M M2:ay}{C C0 C2:List (List aP)}{c c2:Nat}{d:aP}
structure Same (L L2:Log) (M M2:ay) (c c2:Nat):Prop where
 one:c=L.aF.length
 two:c2=L.aF.length
 aF:L2.aF.take c2=L.aF.take c
 rows:rowsOf (fun s=>L2.bytes M2 s) (L2.aF.take c2)=rowsOf (fun s=>L.bytes M s) (L.aF.take c)
 uses:jl (fun s=>L2.bytes M2 s) (L2.aF.take c2)=jl (fun s=>L.bytes M s) (L.aF.take c)
 le:L.aF.length≤L2.aF.length
end
theorem Ut:∀ {l l':List Int},l.Pairwise (· < ·)→l'.Pairwise (· < ·)→(∀ p,p∈l↔p∈l')→l=l'
 |[],[],_,_,_=>rfl
 |[],b::l',_,_,h=>by have:=(h b).2 (.head _);cases this
 |a::l,[],_,_,h=>by have:=(h a).1 (.head _);cases this
 |a::l,b::l',h1,h2,h=>by
  obtain ⟨a1,a2⟩:=akl.1 h1
  obtain ⟨b1,b2⟩:=akl.1 h2
  have hab:a=b:=by
   rcases aer.1 ((h a).1 (.head _)) with e|h3
   ·exact e
   ·rcases aer.1 ((h b).2 (.head _)) with e|h4
    ·exact e.symm
    ·have:=b1 a h3;have:=a1 b h4;omega
  subst hab
  congr 1
  refine Ut a2 b2 fun p=>?_
  have:=h p
  rw [aer,aer]at this
  constructor
  ·intro hp
   rcases this.1 (.inr hp) with e|h3
   ·subst e;have:=a1 p hp;omega
   ·exact h3
  ·intro hp
   rcases this.2 (.inr hp) with e|h3
   ·subst e;have:=b1 p hp;omega
   ·exact h3
section
variable {n:Nat}{ds:List aP}{L:Log}{M:ay}{C C0:List (List aP)}{c:Nat}{d x:aP}{xe:aP}
end
end Go.Seg
namespace Go.aB
open Go.ay
open Go.Rep (Use)
open Go.Seg (aU)
def fin (n:Int) (us:List Use) (i:Nat):Bool:=decide (i=us.length) && (decide (0<i) && decide ((us.getD (i - 1) ⟨0,0,0⟩).seg=n))
def EX (sz:Int→Int) (s:Int) (u:Use):Bool:=decide (u.seg=s) && (decide (u.size=sz s) && decide (u.live≤u.size))
def rM (sz:Int→Int) (n:Int) (us:List Use):List Int→Nat→Bool
 |[],i=>fin n us i
 |s::ss,i=>if n<s then fin n us i else match us[i]? with
  |none=>false
  |some u=>if EX sz s u=true then rM sz n us ss (i+1) else false
def fits (L:Seg.Log) (us:List Use) (n:Int):Bool:=rM L.size n us L.aF 0
theorem ab8 {sz:Int→Int}{n:Int}{us:List Use} (hu:∀ u∈us,u.seg≤n∧u.size=sz u.seg∧u.live≤u.size) (hl:us.getLast?.map (·.seg)=some n) :
  ∀ (ss:List Int) (i:Nat) (rest:List Int),ss=(us.drop i).map (·.seg)++rest→(∀ s∈rest,n<s)→i≤us.length→rM sz n us ss i=true:=by
 have hfin:fin n us us.length=true:=by
  cases us with
  |nil=>cases hl
  |cons u us=>
   unfold fin
   have e:(u::us).getLast?=some ((u::us).getD ((u::us).length - 1) ⟨0,0,0⟩):=by
    rw [ajS,adP]
    rw [aak (by simp)];rfl
   rw [e]at hl
   simp only [aj7,Option.some.injEq]at hl
   rw [hl]
   simp
 intro ss
 induction ss with
 |nil=>
  intro i rest hs hr hi
  have:=aje List.length hs
  simp only [ajn,aal,aaJ,adU]at this
  obtain rfl:i=us.length:=by omega
  exact hfin
 |cons s ss ih=>
  intro i rest hs hr hi
  by_cases hlt:i<us.length
  ·have hd:us.drop i=us[i]::us.drop (i+1):=ajX hlt
   rw [hd,ag8,ajN]at hs
   obtain ⟨h1,h2⟩:=List.cons.inj hs
   obtain ⟨u1,u2,u3⟩:=hu us[i] (alo hlt)
   unfold rM
   rw [abw oQ,aak hlt]
   simp only
   rw [ac3 (by unfold EX;rw [h1,u2];simp;omega)]
   exact ih (i+1) rest h2 hr hlt
  ·obtain rfl:i=us.length:=by omega
   rw [ak9,ajP,ajd]at hs
   have:=hr s (by rw [← hs];exact List.mem_cons_self)
   unfold rM
   rw [ac3 this]
   exact hfin
def lies (p:aU) (sz:Int→Int):Bool:=decide (8≤p.at_) && (decide (41≤p.size) && decide (p.size≤sz p.seg - p.at_))
def sizes (us:List Use):Int→Int:=us.foldl (fun f u=>fun s=>if s=u.seg then u.size else f s) fun _=>0
theorem XB (us:List Use) (u:Use):sizes (us++[u])=fun s=>if s=u.seg then u.size else sizes us s:=by unfold sizes;rw [ak1];rfl
theorem ahx {us:List Use} (h:(us.map (·.seg)).Nodup){u:Use} (hu:u∈us):sizes us u.seg=u.size:=by
 rw [← List.reverse_reverse us]at h hu ⊢
 generalize us.reverse=r at *
 induction r with
 |nil=>cases hu
 |cons v r ih=>
  rw [List.reverse_cons]at h hu ⊢
  rw [XB]
  rw [aey,List.nodup_append]at h
  rcases ajk.1 hu with hu|hu
  ·have hne:u.seg≠v.seg:=h.2.2 _ (acK.2 ⟨u,hu,rfl⟩) _ (by simp)
   simp only
   rw [abw hne]
   exact ih h.1 hu
  ·rw [aiR.1 hu];simp
section
variable {T:Kept}{s1 s2 s:ByteArray}{b1 b2 b:Bs}{K:Nat}{M:ay}
end
theorem acn {M:ay}{lim:Int} (hoff:M.off=false) (s:Int):s∈(Seg.fresh M lim).aF↔(0≤s∧s<1048576)∧∃ i,bP M.now (Seg.name s)=some i:=by
 constructor
 ·intro hs
  unfold Seg.Log.aF at hs
  obtain ⟨x,hx,rfl⟩:=acK.1 hs
  obtain ⟨t,ht,hn,rfl⟩:=Seg.zC hx
  obtain ⟨a,b,c⟩:=Seg.zO hn
  refine ⟨⟨a,b⟩,?_⟩
  simp only
  rw [c]
  exact Seg.UL ht
 ·rintro ⟨⟨a,b⟩,i,hi⟩
  have:=Seg.aco (lim:=lim) hoff a b hi
  unfold Seg.nf at this
  exact ajm this
end Go.aB
namespace Go.Seg
open Go.ay
open Go.aj (Bs fO encs iw jf aP)
open Go.Rep
structure jY (L:Log) (c:Nat) (us:List Use) (ps:List (Bs×aU)):Prop where
 aF:us.map (·.seg)=L.aF.take c
 use:∀ u∈us,0≤u.live∧u.live≤u.size∧u.size=L.size u.seg∧u.size≤33554432
 key:∀ q∈ps,q.1.length=32
 rise:ps.Pairwise fun a b=>a.1<b.1
 VI:∀ q∈ps,8≤q.2.at_∧41≤q.2.size∧q.2.at_+q.2.size≤L.size q.2.seg∧q.2.seg∈L.aF.take c
section
variable {K r E B n c:Nat}{L:Log}{M:ay}{C:List (List aP)}
theorem HG.ahf (h:HG K r E B n L M C) (hc:c≤C.length):∀ s∈L.aF.take c,∃ (j:Nat) (es:List aP),s=(j:Int)∧j<c∧C[j]?=some es:=fun s hs=>by
 obtain ⟨j,hj⟩:=List.getElem?_of_mem hs
 rw [ajl]at hj
 split at hj
 ·rename_i hjc
  have hl:j<C.length:=oQ
  have:=h.aF.2 j hl
  rw [hj]at this
  cases this
  exact ⟨j,C[j],rfl,hjc,aak hl⟩
 ·cases hj
theorem HG.hint (h:HG K r E B n L M C) (hc:c≤C.length){kv:List (Bs×dF)} (hk:Tab.Lists (ledger (rowsOf (fun s=>L.bytes M s) (L.aF.take c))) kv) (h32:∀ q∈kv,q.1.length=32) :
  jY L c ((jl (fun s=>L.bytes M s) (L.aF.take c)).map (upd kv)) (puts kv):=by
 have hok:=rows_ok h.keeps.log M c
 rw [h.rows c]at hok hk
 have hseg:=h.ahf hc
 have hrow:∀ p∈kv,∃ r,r∈Rep.dJ 0 (C.take c)∧eu r≠2∧p.2.tag=eu r∧p.2.place=jV r:=fun p hp=>by
  have h1:=(hk.mem p.1 p.2).1 hp
  unfold ledger at h1
  obtain ⟨r,h2,h3⟩:=akk.1 h1
  obtain ⟨h4,h5,_⟩:=FV h2
  exact ⟨r,h4,h5,by rw [← h3],by rw [← h3]⟩
 refine ⟨?_,fun u hu=>?_,fun q hq=>?_,Rep.MQ hk.rise,fun q hq=>?_⟩
 ·unfold jl
  rw [aj9,aj9]
  conv=>rhs;rw [← List.map_id (L.aF.take c)]
  rfl
 ·obtain ⟨u0,h1,rfl⟩:=acK.1 hu
  unfold jl at h1
  obtain ⟨s,hs,rfl⟩:=acK.1 h1
  obtain ⟨j,es,rfl,hjc,hj⟩:=hseg s hs
  have hb:=h.bytes hj
  have hz:=h.size hj
  have hlv:=ael hok hk (j:Int)
  have hls:=UR (l:=Rep.dJ 0 (C.take c)) (j:Int) _ (acy _)
  have hsm:=Xr (C.take c) 0 j es (by rw [ajl,ac3 hjc];exact hj)
  rw [aiv]at hls
  rw [aen]at hsm
  have hm:mag.length=8:=rfl
  have hsz:=h.keeps.log.sizes _ (abA (h.at_ j es hj))
  unfold upd
  simp only [hb,hz,aal]
  rw [hlv,hsm]at hls
  simp only at hsz
  refine ⟨hls.1,?_,trivial,?_⟩
  ·have:=hls.2;omega
  ·omega
 ·unfold puts at hq
  obtain ⟨p,hp,rfl⟩:=acK.1 hq
  exact h32 p (aji.1 hp).1
 ·unfold puts at hq
  obtain ⟨p,hp,rfl⟩:=acK.1 hq
  obtain ⟨hp1,hp2⟩:=aji.1 hp
  obtain ⟨r,h1,_,h3,h4⟩:=hrow p hp1
  obtain ⟨j,es,h5,h6,h7⟩:=Rep.Gx (C.take c) 0 h1
  obtain ⟨u,v,h8,h9,h10⟩:=Rep.EY es 8 h7
  have hjc:j<c:=by
   have:=(abl.1 h5).1
   rw [acJ]at this;omega
  have hj:C[j]?=some es:=by rw [ajl,ac3 hjc]at h5;exact h5
  have hg:iw r.2.e:=(h.good es (abA hj)).1 _ (by rw [h8];simp)
  have hz:=h.size hj
  have ht:r.2.e.tag=0:=by
   have:p.2.tag=0:=by simpa using hp2
   rw [h3]at this;exact this
  have hl:r.2.size=41+r.2.e.data.length:=by
   rw [h10,GY hg.1 hg.2]
   unfold aj.size
   rw [abw (by simp [(aj.Kq hg.1).1]),abw (by rw [ht];decide)]
  have hes:encs es=encs u++((aj.encode r.2.e).1++encs v):=by rw [h8,vJ];rfl
  have hm:mag.length=8:=rfl
  have hr1:r.1=(j:Int):=by rw [h6,aen]
  simp only
  rw [h4]
  show 8≤(r.2.at_:Int)∧41≤(r.2.size:Int)∧(r.2.at_:Int)+(r.2.size:Int)≤L.size r.1∧r.1∈L.aF.take c
  rw [hr1,hz,aal,hes,aal,aal]
  refine ⟨by omega,by omega,by omega,?_⟩
  have hl:j<C.length:=(abl.1 hj).1
  exact abA (i:=j) (by rw [ajl,ac3 hjc];exact h.aF.2 j hl)
end
section
variable {n:Nat}{L:Log}{M:ay}{C:List (List aP)}{c:Cal}
theorem abG (C:List (List aP)) (b:Bool):∃ es,put C b dA≠[]∧(put C b dA)[(put C b dA).length - 1]?=some es∧Rep.nC es=true:=by
 unfold put
 cases b with
 |true=>
  simp only [akL]
  refine ⟨C.getLastD []++[dA],by simp,?_,?_⟩
  ·rw [aal,adX,akW,adQ (acy _),akb];rfl
  ·unfold Rep.nC;rw [List.getLast?_concat];rfl
 |false=>
  simp only [ajK,akO]
  refine ⟨[dA],by simp,?_,rfl⟩
  rw [aal,adX,akW,adQ (acy _),akb];rfl
theorem aaW {K r:Nat} (k:Keeps K r L M) (h0:(L.commit M).2.2=0):(L.commit M).1.2.waits=[]∧(L.commit M).1.2.fast=(L.commit M).1.2.now∧(L.commit M).1.1.fresh=0∧(L.commit M).2.1=(L.append M dA).2.1.seg:=by
 rw [Log.zq]at h0 ⊢
 split at h0
 ·rename_i g;exact absurd h0 g
 rename_i g1
 rw [abw g1]
 split at h0
 ·rename_i g;exact absurd h0 g
 rename_i g2
 rw [abw g2]
 split at h0
 ·rename_i g;exact absurd h0 g
 rename_i g3
 rw [abw g3]
 have k1:=(k.append dA rfl).1
 have hc:=k1.calm.sync (name (L.append M dA).2.1.seg)
 have hd:=hc.quiet.G8
 refine ⟨?_,?_,rfl,rfl⟩
 ·show ((L.append M dA).1.2.sync (name (L.append M dA).2.1.seg)).1.dN.1.waits=_
  rw [hd]
 ·show ((L.append M dA).1.2.sync (name (L.append M dA).2.1.seg)).1.dN.1.fast=((L.append M dA).1.2.sync (name (L.append M dA).2.1.seg)).1.dN.1.now
  rw [hd]
end
end Go.Seg
namespace Go.aB
open Go.ay
open Go.Seg (Log Keeps Holds HG jY mag)
open Go.aj (fO encs iw jf aP)
open Go.Rep (Use)
section
variable {n K r E B:Nat}{L:Log}{M:ay}{C:List (List aP)}{N:Int}{b1 b2:aj.Bs}
theorem Ib (k:Int):tmp≠Seg.name k:=fun e=>by
 rcases GV k with q|⟨q,_⟩
 ·rw [q]at e;exact Og e
 ·rw [← e]at q;exact absurd q aN
end
end Go.aB
namespace Go.aB
open Go.ay
open Go.Seg (Log Keeps Holds HG jY mag aU)
open Go.aj (fO encs iw jf aP)
open Go.Rep (Use)
theorem aa3 {M:ay}{s:ByteArray}{p:ByteArray×Nat} (h:p∈(M.create s).1.now):p∈M.now∨p.1=s:=by
 obtain ⟨_,e1,e2,e3,e4⟩:=M.jv
 unfold ay.create at h
 split at h;· exact .inl h
 split at h;· exact .inl h
 rename_i hg
 split at h;· exact .inl h
 split at h;· exact .inl h
 split at h;· rw [e2]at h;exact .inl h
 have h2:p∈gV.on ⟨ByteArray.empty,s,M.files.length⟩ M.step.1.now:=h
 rw [e2]at h2
 unfold gV.on at h2
 simp only [akL,abw (pI (by simpa using hg):s≠ByteArray.empty)]at h2
 rcases aer.1 ((uz _ _ _).mem_iff.1 h2) with rfl|h3
 ·exact .inr rfl
 ·exact .inl (aji.1 h3).1
theorem PX (M:ay) (s:ByteArray) (b:Bs):(M.append s b).1.now=M.now:=by
 obtain ⟨_,e1,e2,e3,e4⟩:=M.jv
 unfold ay.append
 split;· rfl
 split;· rfl
 split;· rfl
 split;· exact e2
 exact e2
theorem H9 (M:ay) (s:ByteArray):(M.sync s).1.now=M.now:=by
 obtain ⟨_,e1,e2,e3,e4⟩:=M.jv
 unfold ay.sync
 split;· rfl
 split;· rfl
 split;· exact e2
 exact e2
theorem Oc (M:ay):M.dN.1.now=M.now:=by
 obtain ⟨_,e1,e2,e3,e4⟩:=M.jv
 unfold ay.dN
 split;· rfl
 split;· exact e2
 exact e2
theorem Ws {M:ay}{s:ByteArray}{p:ByteArray×Nat} (h:p∈(M.remove s).1.now):p∈M.now:=by
 obtain ⟨_,e1,e2,e3,e4⟩:=M.jv
 unfold ay.remove at h
 split at h;· exact h
 split at h;· exact h
 split at h;· rw [e2]at h;exact h
 have h2:p∈gV.on ⟨s,ByteArray.empty,0⟩ M.step.1.now:=h
 rw [e2]at h2
 unfold gV.on at h2
 simp only [akL]at h2
 split at h2
 ·exact h2
 ·exact (aji.1 h2).1
def Grown (M M':ay):Prop:=∀ p∈M'.now,p∈M.now∨∃ k,p.1=Seg.name k
theorem Grown.refl (M:ay):Grown M M:=fun p hp=> .inl hp
theorem Grown.trans {A B D:ay} (h:Grown A B) (k:Grown B D):Grown A D:=fun p hp=>by
 rcases k p hp with q|q
 ·exact h p q
 ·exact .inr q
theorem Grown.same {A B:ay} (h:B.now=A.now):Grown A B:=fun p hp=> .inl (by rw [← h];exact hp)
theorem Xy (L:Log) (M:ay):Grown M (L.shut M).1.2:=by
 unfold Log.shut
 split;· exact Grown.refl M
 split
 ·split <;> exact Grown.same (H9 M _)
 ·exact Grown.refl M
theorem aav (L:Log) (M:ay) (b:Bs):Grown M (L.je M b).1.2:=by
 have hc:Grown M (M.create (Seg.name L.next)).1:=fun p hp=>(aa3 hp).imp id fun e=>⟨_,e⟩
 have ha:Grown M ((M.create (Seg.name L.next)).1.append (Seg.name L.next) (mag++b)).1:=hc.trans (Grown.same (PX _ _ _))
 unfold Log.je
 split;· exact Grown.refl M
 split;· exact hc
 split;· exact ha
 split
 ·exact ha.trans fun p hp=> .inl (Ws hp)
 ·exact ha
theorem FD (L:Log) (M:ay) (x:aP):Grown M (L.append M x).1.2:=by
 unfold Log.append
 split;· exact Grown.refl M
 split
 ·unfold Log.grow
  split
  ·exact Grown.refl M
  ·split <;> exact Grown.same (PX _ _ _)
 ·unfold Log.begin
  split
  ·exact (Xy L M).trans (aav _ _ _)
  ·exact Xy L M
theorem aea (L:Log) (M:ay):Grown M (L.commit M).1.2:=by
 have h:=FD L M Seg.dA
 rw [Seg.Log.zq]
 split;· exact h
 split;· exact h.trans (Grown.same (H9 _ _))
 split;· exact h.trans ((Grown.same (H9 _ _)).trans (Grown.same (Oc _)))
 exact h.trans ((Grown.same (H9 _ _)).trans (Grown.same (Oc _)))
section
variable {n K B c:Nat}{L:Log}{M M':ay}{C:List (List aP)}{N:Int}{b1 b2:aj.Bs}{us:List Use}
theorem ab7 (hL:L.Ok){ps:List (aj.Bs×aU)} (ho:jY L c us ps) (hc:L.aF.take c=L.aF) (hN:L.aF.getLast?=some N):fits L us N=true:=by
 have hle:∀ s∈L.aF,s≤N:=fun s hs=>by
  obtain ⟨l',hl'⟩:=List.getLast?_eq_some_iff.1 hN
  have hr:=Seg.Af hL
  rw [hl']at hs hr
  rcases ajk.1 hs with hs|hs
  ·have:=(List.pairwise_append.1 hr).2.2 s hs N (by simp)
   omega
  ·rw [aiR.1 hs];exact alC _
 have KZ:us.map (·.seg)=L.aF:=by rw [ho.aF,hc]
 unfold aB.fits
 refine ab8 (fun u hu=>?_) ?_ _ 0 [] (by rw [alu,KZ,afo]) (fun s hs=>by cases hs) (afm _)
 ·have hm:u.seg∈L.aF:=by rw [← KZ];exact acK.2 ⟨u,hu,rfl⟩
  obtain ⟨_,u2,u3,_⟩:=ho.use u hu
  exact ⟨hle _ hm,u3,u2⟩
 ·rw [← List.getLast?_map,KZ];exact hN
end
end Go.aB
namespace Go.aB
open Go.ay
section
variable {s t:ByteArray}{b b1 b2:Bs}{K r:Nat}{M M':ay}{n:Int}
theorem zk (q:Quiet M):(M.all t).2=0↔∃ i,bP M.now t=some i:=by
 cases h:bP M.now t with
 |none=>rw [Seg.all_none q h];simp
 |some i=>rw [Seg.all_some q h];simp
structure Wr (s:ByteArray) (b:Bs) (K r:Nat) (M:ay) (R:ay×Int):Prop where
 calm:Seg.Calm K r R.1
 tmp:bP R.1.now aB.tmp=none
 len:R.1.now.length≤M.now.length+1
 used:R.1.used≤M.used+b.length
 other:∀ t,t≠aB.tmp→t≠s→R.1.all t=M.all t
 names:∀ p∈R.1.now,p∈M.now∨p.1=s
 done:R.2=0∧R.1.all s=(b,0)∨R.2=11∧R.1.now=M.now∧∀ t,R.1.all t=M.all t
 room:M.used+b.length≤r→R.2=0
theorem Io (h:Seg.Calm K r M) (ht:bP M.now tmp=none) (hl:M.now.length<500) (hg:good s=true) (hst:s≠tmp):Wr s b (K+5) r M (write M s b):=by
 have e0:qY M=(M,0):=by unfold qY;rw [XT h.quiet ht];rfl
 obtain ⟨c1,c2,c3,c4,c5⟩:=Seg.EL h acE ht hl
 have hc:=h.create tmp
 have hi:bP (M.create tmp).1.now tmp=some M.files.length:=by rw [c2];exact Seg.zN h.ok.fH.lF _ _
 have hroom:(M.create tmp).1.room=r:=hc.room
 have hw:write M s b=fill (M.create tmp).1 s b:=by
  unfold write
  rw [e0,ac3 rfl]
  show (if (M.create tmp).2=0 then _ else _)=_
  rw [ac3 c1]
 rw [hw]
 have hse:s≠ByteArray.empty:=pI hg
 rcases Seg.tN hc.quiet tmp b with ⟨a1,_⟩|⟨j,a1,⟨a2,a3⟩|⟨a2,a3⟩⟩
 ·rw [hi]at a1;cases a1
 ·have hr:=Seg.DI hc.quiet hi
  have hrc:=hc.remove tmp
  have hf:fill (M.create tmp).1 s b=(((M.create tmp).1.remove tmp).1,11):=by
   have f1:((M.create tmp).1.append tmp b).2=11:=by rw [a3]
   have f2:((M.create tmp).1.append tmp b).1=(M.create tmp).1:=by rw [a3]
   unfold fill
   rw [abw (by rw [f1];decide),ac3 f1,f2,ac3 (by rw [hr])]
  have ha:Seg.Alike M ((M.create tmp).1.remove tmp).1:=by
   rcases Seg.BD h.quiet tmp with ⟨q1,_⟩|⟨_,hn,_,c⟩
   ·exact absurd c1 q1
   rw [hr,c]
   refine ⟨?_,rfl,rfl,fun p hp=>?_⟩
   ·show gV.on ⟨tmp,ByteArray.empty,0⟩ (jP M.now tmp M.files.length)=M.now
    unfold gV.on
    simp only [abw Og,akL]
    exact Seg.L6 hn
   ·have:=h.ok.fH.ids p hp
    simp only [ay.file,ay.link,adP]
    rw [adV this]
  rw [hf]
  refine ⟨hrc.mono oQ,by rw [ha.now];exact ht,by show _≤_;rw [ha.now];omega,by show _≤_;rw [ha.used];omega,fun t _ _=>ha.all t,fun p hp=> .inl (by rw [← ha.now];exact hp),.inr ⟨rfl,ha.now,ha.all⟩,fun hh=>?_⟩
  exfalso
  rw [c3,hroom]at a2
  omega
 ·obtain ⟨b1,b2,b3,b4,b5⟩:=Seg.Eu hc hi b oQ
  have ha:=hc.append tmp b
  have hi2:bP ((M.create tmp).1.append tmp b).1.now tmp=some M.files.length:=by rw [b2];exact hi
  have es:=ha.quiet.DN hi2
  have hsy:=ha.sync tmp
  have hs0:(((M.create tmp).1.append tmp b).1.sync tmp).2=0:=by rw [es]
  have hal:=Seg.G9 ha.ok ha.quiet tmp
  have hi3:bP (((M.create tmp).1.append tmp b).1.sync tmp).1.now tmp=some M.files.length:=by rw [hal.now];exact hi2
  have hre:=Seg.Calm.rename hsy tmp s
  have er:(((M.create tmp).1.append tmp b).1.sync tmp).1.rename tmp s=((((M.create tmp).1.append tmp b).1.sync tmp).1.link ⟨tmp,s,M.files.length⟩,0):=by
   unfold ay.rename
   rw [hsy.quiet.off,hsy.quiet.step,hi3,hg]
   simp
  have hf:fill (M.create tmp).1 s b=(((M.create tmp).1.append tmp b).1.sync tmp).1.rename tmp s:=by
   unfold fill
   rw [ac3 b1,ac3 hs0]
  rw [hf]
  have hall:∀ t,(((M.create tmp).1.append tmp b).1.sync tmp).1.all t=((M.create tmp).1.append tmp b).1.all t:=hal.all
  have KT:(((M.create tmp).1.append tmp b).1.sync tmp).1.now=jP M.now tmp M.files.length:=by rw [hal.now,b2,c2]
  have hu0:(((M.create tmp).1.append tmp b).1.sync tmp).1.used=M.used+b.length:=by rw [hal.used,b3,c3]
  have hgt:(((M.create tmp).1.append tmp b).1.sync tmp).1.all tmp=(b,0):=by rw [hall,b4,c4];rfl
  have hot:∀ t,t≠tmp→(((M.create tmp).1.append tmp b).1.sync tmp).1.all t=M.all t:=fun t h1=>by rw [hall,b5 t h1,c5 t h1]
  generalize (((M.create tmp).1.append tmp b).1.sync tmp).1=M2 at *
  have ji:(M2.rename tmp s).1.now=jP (fK (jP M.now tmp M.files.length) tmp) s M.files.length:=by
   rw [er]
   show gV.on _ M2.now=_
   rw [KT]
   unfold gV.on
   simp only [abw Og,abw hse]
  rw [Seg.L6 ht]at ji
  have zG:(M2.rename tmp s).1.file=M2.file:=by rw [er];rfl
  have hq:=hre.quiet
  refine ⟨hre.mono oQ,?_,?_,?_,fun t h1 h2=>?_,fun p hp=>?_,.inl ⟨by rw [er],?_⟩,fun _=>by rw [er]⟩
  ·rw [ji,Seg.zM (Ne.symm hst)];exact ht
  ·rw [ji];exact ae0 _ _ _
  ·rw [← hu0]
   show ((M2.rename tmp s).1.now.map fun p=>((M2.rename tmp s).1.file p.2).now.length).sum≤(M2.now.map fun p=>(M2.file p.2).now.length).sum
   rw [ji,zG,KT]
   rw [Am _ _ _ (fun j=>(M2.file j).now.length),Am _ _ _ (fun j=>(M2.file j).now.length),vW ht]
   have h2:=G6 M.now s (fun j=>(M2.file j).now.length)
   omega
  ·have e1:bP (M2.rename tmp s).1.now t=bP M.now t:=by rw [ji,Seg.zM h2]
   have e2:bP M2.now t=bP M.now t:=by rw [KT,Seg.zM h1]
   rw [← hot t h1]
   cases hj:bP M.now t with
   |none=>rw [hj]at e1 e2;rw [Seg.all_none hq e1,Seg.all_none hsy.quiet e2]
   |some j=>rw [hj]at e1 e2;rw [Seg.all_some hq e1,Seg.all_some hsy.quiet e2,zG]
  ·rw [ji]at hp
   rcases aer.1 ((uz _ _ _).mem_iff.1 hp) with rfl|hp
   ·exact .inr rfl
   ·exact .inl (aji.1 hp).1
  ·have e1:bP (M2.rename tmp s).1.now s=some M.files.length:=by rw [ji];exact Seg.zN h.ok.fH.lF _ _
   rw [Seg.all_some hq e1,zG]
   rw [Seg.all_some hsy.quiet hi3]at hgt
   exact hgt
theorem MZ (h:Seg.Calm K r M){i:Nat} (hi:bP M.now s=some i):(M.remove s).2=0∧(M.remove s).1.now=fK M.now s∧(∀ t,t≠s→(M.remove s).1.all t=M.all t)∧(M.remove s).1.used≤M.used:=by
 have hr:=Seg.DI h.quiet hi
 have hc:=h.remove s
 have hse:s≠ByteArray.empty:=fun e=>h.ok.fH.ne _ (jk hi) e
 have ji:(M.remove s).1.now=fK M.now s:=by
  rw [hr]
  show gV.on ⟨s,ByteArray.empty,0⟩ M.now=_
  unfold gV.on
  simp only [abw hse,akL]
 have zG:(M.remove s).1.file=M.file:=by rw [hr];rfl
 refine ⟨by rw [hr],ji,fun t ht=>?_,?_⟩
 ·have e1:bP (M.remove s).1.now t=bP M.now t:=by rw [ji,Seg.Du ht]
  cases hj:bP M.now t with
  |none=>rw [hj]at e1;rw [Seg.all_none hc.quiet e1,Seg.all_none h.quiet hj]
  |some j=>rw [hj]at e1;rw [Seg.all_some hc.quiet e1,Seg.all_some h.quiet hj,zG]
 ·show ((M.remove s).1.now.map fun p=>((M.remove s).1.file p.2).now.length).sum≤(M.now.map fun p=>(M.file p.2).now.length).sum
  rw [ji,zG]
  exact G6 M.now s (fun j=>(M.file j).now.length)
structure Sw (p:ByteArray→Bool) (K r:Nat) (l:List ByteArray) (M:ay) (R:ay×Int):Prop where
 zero:R.2=0
 calm:Seg.Calm K r R.1
 sub:∀ q∈R.1.now,q∈M.now
 len:R.1.now.length≤M.now.length
 used:R.1.used≤M.used
 other:∀ t,p t=false→R.1.all t=M.all t
 gone:∀ q∈R.1.now,q.1∈l→p q.1=false
theorem G7 {p:ByteArray→Bool}:∀ (l:List ByteArray) (K:Nat) (M:ay),Seg.Calm K r M→l.Nodup→(∀ f∈l,∃ i,bP M.now f=some i)→Sw p (K+l.length) r l M (sweep p l M)
 |[],K,M,h,_,_=>⟨rfl,h,fun q hq=>hq,acy _,acy _,fun _ _=>rfl,fun _ _ hl=>by cases hl⟩
 |f::l,K,M,h,hd,hh=>by
  obtain ⟨d1,d2⟩:=akx.1 hd
  unfold sweep
  split
  ·rename_i hp
   obtain ⟨i,hi⟩:=hh f (.head _)
   obtain ⟨r1,r2,r3,r4⟩:=MZ h hi
   rw [ac3 r1]
   have hs:=G7 (p:=p) l (K+1) (M.remove f).1 (h.remove f) d2 (fun g hg=>by
    rw [r2,Seg.Du (fun e=>d1 (by rw [← e];exact hg))]
    exact hh g (.tail _ hg))
   refine ⟨hs.zero,hs.calm.mono (by rw [aja];omega),fun q hq=>?_,adr hs.len (by rw [r2];exact zJ M.now f),adr hs.used r4,fun t ht=>?_,fun q hq hl=>?_⟩
   ·have:=hs.sub q hq
    rw [r2]at this
    exact (aji.1 this).1
   ·rw [hs.other t ht,r3 t (fun e=>by rw [e,hp]at ht;cases ht)]
   ·rcases aer.1 hl with e|hl
    ·have:=hs.sub q hq
     rw [r2]at this
     have:=(aji.1 this).2
     rw [e]at this
     simp [bne,mF]at this
    ·exact hs.gone q hq hl
  ·rename_i hp
   have hs:=G7 (p:=p) l K M h d2 (fun g hg=>hh g (.tail _ hg))
   refine ⟨hs.zero,hs.calm.mono (by rw [aja];omega),hs.sub,hs.len,hs.used,hs.other,fun q hq hl=>?_⟩
   rcases aer.1 hl with e|hl
   ·rw [e];simpa using hp
   ·exact hs.gone q hq hl
theorem Vk (h:Seg.Calm K r M):(M.now.map (·.1)).Nodup:=h.ok.fH.lF.keys
structure ZH (n:Int) (b1 b2:Bs) (K r:Nat) (M:ay) (R:ay×Int):Prop where
 calm:Seg.Calm K r R.1
 tmp:bP R.1.now aB.tmp=none
 len:R.1.now.length≤M.now.length+2
 used:R.1.used≤M.used+b1.length+b2.length
 other:∀ t,t≠aB.tmp→t≠name idx n→t≠name use n→other n t=false→R.1.all t=M.all t
 names:∀ p∈R.1.now,p∈M.now∨p.1=name idx n∨p.1=name use n
 done:R.2=0∧R.1.all (name idx n)=(b1,0)∧R.1.all (name use n)=(b2,0)∨R.2=11
 room:M.used+b1.length+b2.length≤r→R.2=0
 gone:R.2=0→∀ p∈R.1.now,aB.other n p.1=false
theorem Xm (h:Seg.Calm K r M) (ht:bP M.now tmp=none) (hl:M.now.length≤480) (h1:0≤n) (h2:n<1048576):ZH n b1 b2 (K+600) r M (save M n b1 b2):=by
 have g1:=Dq (ld:=idx) rfl aN n h1 h2
 have g2:=Dq (ld:=use) rfl aN n h1 h2
 have n1:=Uk n h1 h2
 have n2:=XZ n h1 h2
 have ne:=aeF n h1 h2
 have o1:other n (name idx n)=false:=VD (vY (.inl zI) n h1 h2)
 have o2:other n (name use n)=false:=VD (vY (.inr Ii) n h1 h2)
 have w1:=Io (b:=b1) h ht oQ g1 n1
 unfold save
 by_cases c1:(write M (name idx n) b1).2=0
 rotate_left
 ·rw [abw c1]
  have e11:(write M (name idx n) b1).2=11:=by
   rcases w1.done with ⟨e,_⟩|⟨e,_⟩
   ·exact absurd e c1
   ·exact e
  exact ⟨w1.calm.mono oQ,w1.tmp,by have:=w1.len;omega,by have:=w1.used;omega,fun t a b _ _=>w1.other t a b,fun p hp=>(w1.names p hp).imp id .inl,.inr e11,fun hh=>w1.room oQ,fun e=>absurd e c1⟩
 rw [ac3 c1]
 have a1:(write M (name idx n) b1).1.all (name idx n)=(b1,0):=by
  rcases w1.done with ⟨_,e⟩|⟨e,_⟩
  ·exact e
  ·rw [e]at c1;cases c1
 have w2:=Io (b:=b2) w1.calm w1.tmp (by have:=w1.len;omega) g2 n2
 unfold NK
 generalize hM1:(write M (name idx n) b1).1=M1 at *
 by_cases c2:(write M1 (name use n) b2).2=0
 rotate_left
 ·rw [abw c2]
  have e11:(write M1 (name use n) b2).2=11:=by
   rcases w2.done with ⟨e,_⟩|⟨e,_⟩
   ·exact absurd e c2
   ·exact e
  refine ⟨w2.calm.mono oQ,w2.tmp,?_,?_,fun t a b c _=>?_,fun p hp=>?_,.inr e11,fun hh=>?_,fun e=>absurd e c2⟩
  ·have:=w1.len;have:=w2.len;rw [hM1]at *;omega
  ·have:=w1.used;have:=w2.used;rw [hM1]at *;omega
  ·have:=w1.other t a b;rw [hM1]at this;rw [w2.other t a c,this]
  ·rcases w2.names p hp with q|q
   ·have:=w1.names p (by rw [hM1];exact q);exact this.imp id .inl
   ·exact .inr (.inr q)
  ·have:=w1.used;rw [hM1]at this;exact w2.room oQ
 rw [ac3 c2]
 have a2:(write M1 (name use n) b2).1.all (name use n)=(b2,0):=by
  rcases w2.done with ⟨_,e⟩|⟨e,_⟩
  ·exact e
  ·rw [e]at c2;cases c2
 have a3:(write M1 (name use n) b2).1.all (name idx n)=(b1,0):=by rw [w2.other _ n1 ne,a1]
 generalize hM2:(write M1 (name use n) b2).1=M2 at *
 have k2:Seg.Calm (K+5+5) r M2:=by have:=w2.calm;rw [hM2]at this;exact this
 have hd:=k2.quiet.G8
 have hds:=k2.dN
 unfold NM
 rw [ac3 (by rw [hd])]
 have hz:M2.dN.1.now=M2.now:=by rw [hd]
 have hu:M2.dN.1.used=M2.used:=by rw [hd];rfl
 have hall:∀ t,M2.dN.1.all t=M2.all t:=fun t=>by rw [hd];rfl
 generalize M2.dN.1=M3 at *
 have qp:M3.list=M3.now.map (·.1):=hds.quiet.list
 have hs:=G7 (p:=other n) M3.list (K+5+5) M3 hds (by rw [qp];exact Vk hds) (fun f hf=>by
  rw [qp]at hf
  obtain ⟨p,hp,rfl⟩:=acK.1 hf
  exact ⟨p.2,zL hds.ok.fH.lF.keys (show (p.1,p.2)∈M3.now from hp)⟩)
 have hlen:M3.list.length≤500:=by rw [qp,aaJ];exact hds.ok.fH.len
 refine ⟨hs.calm.mono oQ,?_,?_,?_,fun t a b c d=>?_,fun p hp=>?_,.inl ⟨hs.zero,?_,?_⟩,fun _=>hs.zero,fun _ p hp=>hs.gone p hp (by rw [qp];exact acK.2 ⟨p,hs.sub p hp,rfl⟩)⟩
 ·cases hi:bP (sweep (other n) M3.list M3).1.now tmp with
  |none=>rfl
  |some i=>
   have q:=hs.sub _ (jk hi)
   have:=zL hds.ok.fH.lF.keys q
   rw [hz]at this
   have e:=w2.tmp
   rw [hM2,this]at e
   cases e
 ·have:=hs.len;have:=w1.len;have:=w2.len;rw [hM1]at *;rw [hM2]at *;rw [hz]at *;omega
 ·have:=hs.used;have:=w1.used;have:=w2.used;rw [hM1]at *;rw [hM2]at *;omega
 ·have e1:=w1.other t a b
  have e2:=w2.other t a c
  rw [hM1]at e1
  rw [hM2]at e2
  rw [hs.other t d,hall,e2,e1]
 ·have q:=hs.sub p hp
  rw [hz]at q
  rcases w2.names p (by rw [hM2];exact q) with q|q
  ·have:=w1.names p (by rw [hM1];exact q);exact this.imp id .inl
  ·exact .inr (.inr q)
 ·rw [hs.other _ o1,hall,a3]
 ·rw [hs.other _ o2,hall,a2]
end
end Go.aB
namespace Go.aB
open Go.ay
open Go.Seg (Log Keeps Holds HG jY mag aU)
open Go.aj (fO encs iw jf aP)
open Go.Rep (Use)
section
variable {n K r E B c:Nat}{L:Log}{M:ay}{C:List (List aP)}{N:Int}{us:List Use}{ps:List (Bs×aU)}
theorem jY.size (h:jY L c us ps){s:Int} (hs:s∈L.aF.take c):L.size s≤33554432:=by
 rw [← h.aF]at hs
 obtain ⟨u,hu,rfl⟩:=acK.1 hs
 obtain ⟨_,_,h3,h4⟩:=h.use u hu
 omega
theorem jY.idx (h:jY L c us ps) (hL:L.Ok) (hl:ps.length≤65536):aS.Ok 3 true (ps.map Rep.iY):=by
 refine ⟨by rw [aaJ];exact hl,fun r hr=>?_,fun i a b ha hb=>?_⟩
 ·obtain ⟨q,hq,rfl⟩:=acK.1 hr
  obtain ⟨p1,p2,p3,p4⟩:=h.VI q hq
  have hz:=jY.size h p4
  have hsg:=ajm p4
  obtain ⟨x,hx,hxe⟩:=acK.1 hsg
  have hnm:=hL.nums x hx
  refine ⟨h.key q hq,rfl,fun m hm=>?_⟩
  simp only [Rep.iY,aer,ajU,alb]at hm
  rcases hm with rfl|rfl|rfl <;> omega
 ·rw [aix]at ha hb
  obtain ⟨x,hx,rfl⟩:=akk.1 ha
  obtain ⟨y,hy,rfl⟩:=akk.1 hb
  obtain ⟨i1,rfl⟩:=abl.1 hx
  obtain ⟨i2,rfl⟩:=abl.1 hy
  unfold aS.ahead
  rw [ac3 rfl]
  exact akQ.1 h.rise i (i+1) i1 i2 oQ
theorem jY.uses (h:jY L c us ps) (hL:L.Ok) (hl:us.length≤65536):aS.Ok 3 false (us.map Rep.jc):=by
 have oK:(us.map (·.seg)).Pairwise (· < ·):=by
  rw [h.aF];exact (Seg.Af hL).sublist (List.take_sublist _ _)
 refine ⟨by rw [aaJ];exact hl,fun r hr=>?_,fun i a b ha hb=>?_⟩
 ·obtain ⟨u,hu,rfl⟩:=acK.1 hr
  obtain ⟨p1,p2,p3,p4⟩:=h.use u hu
  have hsg:u.seg∈L.aF:=ajm (by rw [← h.aF];exact acK.2 ⟨u,hu,rfl⟩)
  obtain ⟨x,hx,hxe⟩:=acK.1 hsg
  have hnm:=hL.nums x hx
  refine ⟨rfl,rfl,fun m hm=>?_⟩
  simp only [Rep.jc,aer,ajU,alb]at hm
  rcases hm with rfl|rfl|rfl <;> omega
 ·rw [aix]at ha hb
  obtain ⟨x,hx,rfl⟩:=akk.1 ha
  obtain ⟨y,hy,rfl⟩:=akk.1 hb
  obtain ⟨i1,rfl⟩:=abl.1 hx
  obtain ⟨i2,rfl⟩:=abl.1 hy
  unfold aS.ahead
  rw [abw aN]
  have:=akQ.1 oK i (i+1) (by rw [aaJ];exact i1) (by rw [aaJ];exact i2) oQ
  rw [List.getElem_map,List.getElem_map]at this
  exact this
end
structure Hd (T:Kept) (P:ByteArray→Prop) (K:Nat) (M:ay):Prop where
 ok:M.Ok K
 nm:∀ k,k≤M.waits.length→(∀ t∈T,bP (M.lC k) t.1=some t.2.1)∧∀ p∈M.lC k,(∃ t∈T,p.1=t.1)∨P p.1
 fil:∀ t∈T,M.file t.2.1=t.2.2
section
variable {T:Kept}{P:ByteArray→Prop}{K K' r:Nat}{M:ay}{s:ByteArray}{L:Log}{N:Int}
end
section
variable {T:Kept}{P:ByteArray→Prop}{n K K' E B c:Nat}{L:Log}{M M':ay}{C:List (List aP)}{N:Int}{b1 b2:aj.Bs}{us:List Use}
structure More (T:Kept) (P:ByteArray→Prop) (N:Int) (K E B n:Nat) (L:Log) (M:ay) (C:List (List aP)):Prop where
 hg:HG K 1048576 E B n L M C
 hd:Hd T P K M
 on:L.on=true→N+1<C.length
 len:N+1≤C.length
end
section
variable {n K r E B c:Nat}{L:Log}{M M':ay}{C:List (List aP)}{N:Int}{us:List Use}{ps:List (Bs×aU)}{b1 b2:aj.Bs}
theorem FT:∀ (l:List ByteArray) (x:Int),x≤N→(∀ s∈l,(number s).2=true→(number s).1=N)→(x=N∨∃ s∈l,(number s).2=true)→rZ l x=N
 |[],x,_,_,h=>by
  rcases h with h|⟨s,hs,_⟩
  ·exact h
  ·cases hs
 |s::l,x,hx,hl,h=>by
  show rZ l (if (number s).2=true then max x (number s).1 else x)=N
  by_cases hs:(number s).2=true
  ·rw [ac3 hs,hl s (.head _) hs,Int.max_eq_right hx]
   exact FT l N (alC _) (fun t ht=>hl t (.tail _ ht)) (.inl rfl)
  ·rw [abw hs]
   refine FT l x hx (fun t ht=>hl t (.tail _ ht)) ?_
   rcases h with h|⟨t,ht,he⟩
   ·exact .inl h
   ·rcases aer.1 ht with rfl|ht
    ·exact absurd he hs
    ·exact .inr ⟨t,ht,he⟩
theorem jY.lies (h:jY L c us ps) (hL:L.Ok):∀ q∈ps,aB.lies q.2 (aB.sizes us)=true∧IntKind.i64.wrap (aB.sizes us q.2.seg - q.2.at_)=aB.sizes us q.2.seg - q.2.at_:=fun q hq=>by
 obtain ⟨p1,p2,p3,p4⟩:=h.VI q hq
 have hz:=jY.size h p4
 have hnd:(us.map (·.seg)).Nodup:=by
  rw [h.aF]
  exact (((Seg.Af hL).sublist (List.take_sublist _ _)).imp fun {a b} hab=>by omega)
 have hm:q.2.seg∈us.map (·.seg):=by rw [h.aF];exact p4
 obtain ⟨u,hu,he⟩:=acK.1 hm
 obtain ⟨_,_,u3,_⟩:=h.use u hu
 have hs:aB.sizes us q.2.seg=L.size q.2.seg:=by rw [← he,ahx hnd hu,u3]
 rw [hs]
 refine ⟨?_,acI _ oQ⟩
 unfold aB.lies
 rw [aiu p1,aiu p2,hs,aiu (by omega:q.2.size≤L.size q.2.seg - q.2.at_)]
 rfl
end
end Go.aB
namespace Go.Seg
open Go.ay
open Go.aj (Bs aP encs iw)
open Go.Rep
structure Rp (K r E B n:Nat) (L:Log) (M:ay) (C:List (List aP)):Prop where
 hg:HG K r E B n L M C
 tmp:bP M.now aB.tmp=none
 few:C.flatten.length≤n
 small:∀ p∈M.now,p.1.size≤24
section
variable {K r E B n:Nat}{L:Log}{M M':ay}{C:List (List aP)}{x:aP}
theorem aeD (k:Int):(name k).size≤24:=by
 rcases aB.GV k with z|⟨z,_⟩
 ·rw [z];decide
 ·rw [z];decide
theorem HG.apart {K' E' B':Nat} (h:HG K r E B n L M C) (c:Calm K' r M') (ha:∀ k:Int,M'.all (name k)=M.all (name k)) (hu:M'.used≤n * 400+B') (hn:M'.now.length≤n+E'):HG K' r E' B' n L M' C:=by
 have has:∀ k:Int,(∃ i,bP M'.now (name k)=some i)↔∃ i,bP M.now (name k)=some i:=fun k=>by
  rw [← aB.zk c.quiet,← aB.zk h.keeps.calm.quiet,ha]
 exact ⟨⟨h.keeps.log,c,fun s hs=>(has s.1).2 (h.keeps.has s hs)⟩,h.len,h.at_,fun k es hk=>by rw [ha];exact h.file k es hk,h.good,h.count,hu,hn,fun k i hk hi=>by
  obtain ⟨j,hj⟩:=(has k).1 ⟨i,hi⟩
  exact h.cover k j hk hj⟩
theorem Rp.grown (h:Rp K r E B n L M C){K' n':Nat}{L':Log}{C':List (List aP)} (hg:HG K' r E B n' L' M' C') (hr:aB.Grown M M') (hf:C'.flatten.length≤n'):Rp K' r E B n' L' M' C':=by
 refine ⟨hg,?_,hf,fun p hp=>?_⟩
 ·cases hi:bP M'.now aB.tmp with
  |none=>rfl
  |some i=>
   rcases hr _ (jk hi) with q|⟨k,q⟩
   ·have:=zL h.hg.keeps.calm.ok.fH.lF.keys (show (aB.tmp,i)∈M.now from q)
    rw [h.tmp]at this;cases this
   ·exact absurd q (aB.Ib k)
 ·rcases hr p hp with q|⟨k,q⟩
  ·exact h.small p q
  ·rw [q];exact aeD k
theorem Rp.mono (h:Rp K r E B n L M C){K' E' B' n':Nat} (h1:K≤K') (h2:E≤E') (h3:B≤B') (h4:n≤n'):Rp K' r E' B' n' L M C:=⟨h.hg.mono h1 h2 h3 h4,h.tmp,adr h.few h4,h.small⟩
theorem Rp.yes (h:Rp K r E B n L M C) (hn:n<1000) (hk:x.key.length=32) (hd:x.data.length≤300) (h0:(aj.encode x).2=0) (hz:(L.append M x).2.2=0) :
  ∃ C',Rp (K+4) r E B (n+1) (L.append M x).1.1 (L.append M x).1.2 C'∧C'=put C (L.fits (aj.encode x).1.length) x∧C'.flatten=C.flatten++[x]∧∃ row,dJ 0 C'=dJ 0 C++[row]∧row.2.e=x∧jV row=(L.append M x).2.1:=by
 obtain ⟨_,_,_,a4,_,_⟩:=h.hg.append hn x hk hd h0 (.inl hz)
 have hfl:=VQ C (L.fits (aj.encode x).1.length) x h.hg.BI
 refine ⟨_,h.grown a4 (aB.FD L M x) ?_,rfl,hfl,_,WQ C _ x h.hg.BI,VP C _ x,(h.hg.ZX h0 hz).symm⟩
 rw [hfl,aal,adX];have:=h.few;omega
theorem Rp.no (h:Rp K r E B n L M C) (hk:x.key.length=32) (hz:(L.append M x).2.2≠0):Rp (K+4) r E B n (L.append M x).1.1 (L.append M x).1.2 C:=
 h.grown (h.hg.Z7 x hk hz) (aB.FD L M x) h.few
theorem HG.JH (h:HG K r E B n L M C) (hn:n<1000) (hnm:M.now.length<500) (h0:(aj.encode x).2=0):(L.append M x).2.2=0∨(L.append M x).2.2=11:=by
 cases hf:L.fits (aj.encode x).1.length with
 |true=>
  rw [Log.xK h0 hf]
  obtain ⟨s,hl⟩:=h.keeps.log.last (BJ hf)
  obtain ⟨i,hi⟩:=h.keeps.has _ (akj hl)
  unfold Log.grow
  rw [hl]
  simp only
  rcases tN h.keeps.calm.quiet (name s.1) (aj.encode x).1 with ⟨q1,_⟩|⟨j,q1,⟨q2,q3⟩|⟨q2,q3⟩⟩
  ·rw [hi]at q1;cases q1
  ·rw [q3];right;rw [abw (by simp)]
  ·rw [q3];left;rw [ac3 rfl]
 |false=>
  rw [Log.xJ h0 hf]
  obtain ⟨s1,s2,s3,_,s5⟩:=h.keeps.shut
  have hnx:(L.shut M).1.1.next=C.length:=by
   have:=h.next
   unfold Log.next at this ⊢
   rw [s3];exact this
  unfold Log.begin
  rw [ac3 s2]
  have hcnt:=h.count
  have hno:bP (L.shut M).1.2.now (name (C.length:Int))=none:=by
   cases hi:bP (L.shut M).1.2.now (name (C.length:Int)) with
   |none=>rfl
   |some i=>
    rw [s5.now]at hi
    have:=h.cover C.length i oQ hi
    omega
  have hl5:(L.shut M).1.2.now.length<500:=by rw [s5.now];exact hnm
  have hcm:=s1.calm
  generalize (L.shut M).1.1=L1 at *
  generalize (L.shut M).1.2=M1 at *
  unfold Log.je
  rw [hnx,abw oQ]
  obtain ⟨c1,c2,_,_,_⟩:=EL hcm (KD (C.length:Int) oQ oQ) hno hl5
  have hc1:=hcm.create (name (C.length:Int))
  have hself:bP (M1.create (name (C.length:Int))).1.now (name (C.length:Int))=some M1.files.length:=by rw [c2];exact zN hcm.ok.fH.lF _ _
  rw [abw (fun q=>q c1)]
  rcases tN hc1.quiet (name (C.length:Int)) (mag++(aj.encode x).1) with ⟨q1,_⟩|⟨j,q1,⟨q2,q3⟩|⟨q2,q3⟩⟩
  ·rw [hself]at q1;cases q1
  ·right
   rw [q3,abw (by simp),ac3 rfl]
   simp only
   rw [ac3 (by rw [DI hc1.quiet hself])]
  ·left
   rw [q3,ac3 rfl]
theorem Rp.commit (h:Rp K r E B n L M C) (hn:n<1000) (hz:(L.append M dA).2.2=0) :
  (L.commit M).2.2=0∧(L.commit M).1.1.on=false∧∃ C',Rp (K+5) r E B (n+1) (L.commit M).1.1 (L.commit M).1.2 C'∧(∃ row,dJ 0 C'=dJ 0 C++[row]∧row.2.e=dA)∧C'.flatten=C.flatten++[dA]∧(∃ es,C'≠[]∧C'[C'.length - 1]?=some es∧nC es=true):=by
 obtain ⟨a1,a2,_,a4⟩:=h.hg.commit hn (.inl hz)
 have hfl:=VQ C (L.fits (aj.encode dA).1.length) dA h.hg.BI
 refine ⟨a1,a2,_,h.grown a4 (aB.aea L M) ?_,⟨_,WQ C _ dA h.hg.BI,VP C _ dA⟩,hfl,abG C _⟩
 rw [hfl,aal,adX];have:=h.few;omega
theorem Rp.aaV (h:Rp K r E B n L M C) (hz:(L.append M dA).2.2≠0):(L.commit M).2.2=(L.append M dA).2.2∧(L.commit M).1=(L.append M dA).1:=by
 rw [Log.zq,ac3 hz]
 exact ⟨rfl,rfl⟩
theorem Rp.run (h:Rp K r E B n L M C) (hl:∃ es,C≠[]∧C[C.length - 1]?=some es∧nC es=true):Rep.run (fun s=>L.bytes M s) L.aF = .inr C.length∧L.aF.length=C.length∧0<C.length∧L.aF.take C.length=L.aF∧oL L.aF=(C.length:Int) - 1:=by
 obtain ⟨es,hne,he,hen⟩:=hl
 have hp:0<C.length:=akA.2 hne
 obtain ⟨c,h1,h2,h3,h4⟩:=h.hg.run
 have e1:c=C.length:=by
  by_cases hh:c=C.length
  ·exact hh
  ·have:=h4 (C.length - 1) es oQ he
   rw [hen]at this;cases this
 obtain ⟨s1,s2⟩:=h.hg.aF
 refine ⟨by rw [← e1];exact h1,s1,hp,by rw [← s1];exact aiv,?_⟩
 have e:L.aF.getLast?=some ((C.length:Int) - 1):=by
  rw [ajS,s1,s2 _ oQ]
  congr 1;omega
 unfold oL
 rw [e]
theorem Rp.rows (h:Rp K r E B n L M C):rowsOf (fun s=>L.bytes M s) L.aF=dJ 0 C:=by
 have e:=h.hg.rows C.length
 rw [← h.hg.aF.1,aiv,h.hg.aF.1,aiv]at e
 exact e
theorem Rp.iE (h:Rp K r E B n L M C):(rowsOf (fun s=>L.bytes M s) L.aF).length≤n:=by
 rw [h.rows,← aaJ (f:=fun r:Row=>r.2.e),Gw]
 exact h.few
theorem Rp.row (h:Rp K r E B n L M C){q:Row} (hq:q∈dJ 0 C):L.read M (jV q)=(q.2.e,0)∧iw q.2.e∧(q.2.size:Int)≤4294967296∧(q.2.at_:Int)≤4294967296:=by
 refine ⟨h.hg.afW hq,?_⟩
 obtain ⟨j,es,h5,h6,h7⟩:=Gx C 0 hq
 obtain ⟨u,v,h8,h9,h10⟩:=EY es 8 h7
 have hat:=abA (h.hg.at_ j es h5)
 have hsz:=h.hg.keeps.log.sizes _ hat
 have he:(encs es).length=(encs u).length+((aj.encode q.2.e).1.length+(encs v).length):=by
  conv=>lhs;rw [h8]
  rw [vJ,aal]
  congr 1
  exact aal
 simp only at hsz
 exact ⟨(h.hg.good es (abA h5)).1 _ (by rw [h8];simp),by omega,by omega⟩
theorem Rp.WU (h:Rp K r E B n L M C):∀ q∈rowsOf (fun s=>L.bytes M s) L.aF,(q.2.size:Int)≤4294967296:=fun q hq=>by
 rw [h.rows]at hq
 exact (h.row hq).2.2.1
theorem Rp.hint (h:Rp K r E B n L M C){kv:List (Bs×dF)} (hk:Tab.Lists (ledger (rowsOf (fun s=>L.bytes M s) L.aF)) kv) (h32:∀ q∈kv,q.1.length=32) :
  jY L C.length ((jl (fun s=>L.bytes M s) L.aF).map (upd kv)) (puts kv):=by
 have e:L.aF.take C.length=L.aF:=by rw [← h.hg.aF.1];exact aiv
 have:=h.hg.hint (acy _) (kv:=kv) (by rw [e];exact hk) h32
 rw [e]at this
 exact this
theorem Rp.save (h:Rp K r E B n L M C) (hn:n+E≤480){N:Int} (h1:0≤N) (h2:N<1048576) (b1 b2:Bs) :
  Rp (K+600) r (E+2) (B+b1.length+b2.length) n L (aB.save M N b1 b2).1 C∧((aB.save M N b1 b2).2=0∨(aB.save M N b1 b2).2=11) ∧
   (∀ f∈(aB.write (aB.write M (aB.name aB.idx N) b1).1 (aB.name aB.use N) b2).1.dN.1.list,f.size≤4000000000):=by
 have hnm:=h.hg.names
 have s:=aB.Xm (b1:=b1) (b2:=b2) h.hg.keeps.calm h.tmp oQ h1 h2
 have g1:=aB.Dq (ld:=aB.idx) rfl aN N h1 h2
 have g2:=aB.Dq (ld:=aB.use) rfl aN N h1 h2
 have hsz:∀ ld:ByteArray,ld.data.toList.length=4→(aB.name ld N).size≤24:=fun ld hl=>by
  show (aB.name ld N).data.size≤24
  rw [← adu,aB.name_eq ld N h1 h2,aal,hl,vH];omega
 refine ⟨⟨h.hg.apart s.calm (fun k=>?_) (by have:=s.used;have:=h.hg.used;omega) (by have:=s.len;omega),s.tmp,h.few,fun p hp=>?_⟩,s.done.imp (·.1) id,fun f hf=>?_⟩
 ·by_cases hk:0≤k∧k<1048576
  ·exact s.other _ (aB.Ib k).symm (aB.NT k N h1 h2) (aB.NU k N h1 h2) (aB.VB (by rw [aB.yG]))
  ·exact s.other _ (aB.Ib k).symm (aB.NT k N h1 h2) (aB.NU k N h1 h2) (aB.VB (by rw [aB.yG]))
 ·rcases s.names p hp with q|q|q
  ·exact h.small p q
  ·rw [q];exact hsz _ rfl
  ·rw [q];exact hsz _ rfl
 ·have w1:=aB.Io (b:=b1) h.hg.keeps.calm h.tmp oQ g1 (aB.Uk N h1 h2)
  have w2:=aB.Io (b:=b2) w1.calm w1.tmp (by have:=w1.len;omega) g2 (aB.XZ N h1 h2)
  rw [w2.calm.dN.quiet.list,aB.Oc]at hf
  obtain ⟨p,hp,rfl⟩:=acK.1 hf
  refine adr (m:=24) ?_ aN
  rcases w2.names p hp with q|q
  ·rcases w1.names p q with q|q
   ·exact h.small p q
   ·rw [q];exact hsz _ rfl
  ·rw [q];exact hsz _ rfl
end
end Go.Seg
namespace Go.Tab
open Go.aj (Bs)
section
variable {α V:Type}{m:Bs→Option V}{k:Bs}{v:V}
theorem FI [DecidableEq α]:∀ {l l':List α},l.Nodup→(∀ x∈l,x∈l')→l.length≤l'.length
 |[],_,_,_=>afm _
 |a::l,l',hd,hs=>by
  obtain ⟨h1,h2⟩:=akx.1 hd
  have hm:=hs a (.head _)
  have ih:=FI (l':=l'.erase a) h2 (fun x hx=>(List.mem_erase_of_ne (fun e:x=a=>h1 (by rw [← e];exact hx))).2 (hs x (.tail _ hx)))
  rw [List.length_erase_of_mem hm]at ih
  have:=List.length_pos_of_mem hm
  rw [aja];omega
theorem aeg {t:Tb V} (h:t.Ok) (hi:t.Is m){kv:List (Bs×V)} (hl:Lists m kv):t.n=kv.length:=by
 have hA:((t.slots.filter fun x=>x.st==1).map (·.key)).Nodup:=by
  rw [List.nodup_iff_pairwise_ne,aki,List.pairwise_filter,akQ]
  intro i j hi hj hij p1 p2 e
  have:=h.good.one (aak hi) (aak hj) (by simpa using p1) (by simpa using p2) e
  omega
 have hn:t.n=((t.slots.filter fun x=>x.st==1).map (·.key)).length:=by
  rw [aaJ,h.n]
  unfold jB
  rw [List.countP_eq_length_filter]
 have hB:=hl.keys
 have hAB:∀ x∈(t.slots.filter fun x=>x.st==1).map (·.key),x∈kv.map (·.1):=fun x hx=>by
  obtain ⟨y,hy,rfl⟩:=acK.1 hx
  obtain ⟨h1,h2⟩:=aji.1 hy
  obtain ⟨i,hi1,hi2⟩:=akp h1
  have:m y.key=some y.val:=(hi _ _).1 ⟨i,y,by rw [aak hi1,hi2],by simpa using h2,rfl,rfl⟩
  exact acK.2 ⟨(y.key,y.val),(hl.mem _ _).2 this,rfl⟩
 have hBA:∀ x∈kv.map (·.1),x∈(t.slots.filter fun x=>x.st==1).map (·.key):=fun x hx=>by
  obtain ⟨q,hq,rfl⟩:=acK.1 hx
  obtain ⟨i,y,h1,h2,h3,h4⟩:=(hi q.1 q.2).2 ((hl.mem q.1 q.2).1 hq)
  exact acK.2 ⟨y,aji.2 ⟨abA h1,by simpa using h2⟩,h3⟩
 have l1:=FI hA hAB
 have l2:=FI hB hBA
 rw [aaJ]at l1 l2 hn
 rw [aaJ]at l1 l2
 omega
end
end Go.Tab
namespace Go.Seg
open Go.ay
open Go.aj (Bs aP encs iw)
section
variable {K r:Nat}{L:Log}{M:ay}
end
end Go.Seg
namespace Go.Rep
open Go.aj (Bs aP iw)
open Go.Seg (aU)
open Go.Tab
def uD (es:List aP) (kv:List (Bs×aU)):List (Bs×Bs):=kv.map fun q=>(q.1,(kK es q.1).getD [])
theorem afl {l:List Row}{es:List aP}{kv:List (Bs×aU)} (he:l.map (·.2.e)=es) (h:Lists (eX l) kv):Lists (kK es) (uD es kv):=by
 subst he
 refine ⟨?_,fun k v=>?_⟩
 ·unfold uD
  rw [aki]
  exact h.rise
 ·unfold uD
  rw [acK]
  obtain ⟨o1,_⟩:=Vj l k
  constructor
  ·rintro ⟨q,hq,e⟩
   have e1:q.1=k:=aje Prod.fst e
   have e2:(kK (l.map (·.2.e)) q.1).getD []=v:=aje Prod.snd e
   rw [e1]at e2
   have hn:=(h.mem q.1 q.2).1 hq
   rw [e1]at hn
   rw [hn]at o1
   cases ho:kK (l.map (·.2.e)) k with
   |none=>rw [ho]at o1;cases o1
   |some d=>rw [ho]at e2;exact aje some e2
  ·intro ho
   rw [ho]at o1
   cases hn:eX l k with
   |none=>rw [hn]at o1;cases o1
   |some pl=>exact ⟨(k,pl),(h.mem _ _).2 hn,by simp only;rw [ho];rfl⟩
end Go.Rep
namespace Go.Seg
open Go.ay
open Go.aj (Bs aP encs iw)
open Go.Rep
section
variable {K r E B n:Nat}{L:Log}{M:ay}{C:List (List aP)}{k:Bs}{pl:aU}
theorem Rp.got (h:Rp K r E B n L M C) (hk:eX (dJ 0 C) k=some pl):∃ data,L.read M pl=(⟨0,k,data⟩,0)∧kK C.flatten k=some data∧data.length≤16384∧(-9223372036854775808≤pl.at_∧pl.at_≤9223372036854775807)∧(-9223372036854775808≤pl.size∧pl.size≤9223372036854775807)∧k.length=32:=by
 obtain ⟨q,hq,e1,e2,e3,e4⟩:=aeX hk
 obtain ⟨r1,r2,r3,r4⟩:=h.row hq
 rw [Gw]at e4
 obtain ⟨s,⟨⟨tag,key,data⟩,at_,size⟩⟩:=q
 obtain rfl:tag=0:=e2
 obtain rfl:key=k:=e3
 refine ⟨data,by rw [← e1];exact r1,e4,?_,?_,?_,r2.2⟩
 ·rcases aj.EI (aj.Kq r2.1).1 with ⟨_,q⟩|⟨q,_⟩|⟨q,_⟩
  ·exact q
  ·cases q
  ·cases q
 ·rw [← e1]
  show -9223372036854775808≤(at_:Int)∧(at_:Int)≤9223372036854775807
  have:(at_:Int)≤4294967296:=r4
  omega
 ·rw [← e1]
  show -9223372036854775808≤(size:Int)∧(size:Int)≤9223372036854775807
  have:(size:Int)≤4294967296:=r3
  omega
theorem acD (hk:k.length=32) (d:Bs) (hd:d.length≤300):(aj.encode ⟨0,k,d⟩).2=0:=XV (d:=⟨0,k,d⟩) hk hd
theorem acC (hk:k.length=32):(aj.encode ⟨1,k,[]⟩).2=0:=XV (d:=⟨1,k,[]⟩) hk (afm _)
end
section
variable {K r E B n:Nat}{L:Log}{M:ay}{C C0:List (List aP)}{x:aP}
theorem HG.pop (h:HG K r E B n L M C) (hne:C≠[]):∃ s,L.l.getLast?=some s∧(L.remove M s.1).2=0∧HG (K+1) r E B n (L.remove M s.1).1.1 (L.remove M s.1).1.2 C.dropLast∧(L.remove M s.1).1.1.on=false∧(1≤L.fresh→(L.remove M s.1).1.1.fresh=L.fresh - 1)∧aB.Grown M (L.remove M s.1).1.2∧(L.remove M s.1).1.1.limit=L.limit:=by
 have hpos:0<C.length:=akA.2 hne
 have hlen:=h.len
 have hcnt:=h.count
 obtain ⟨c,hc⟩:∃ c,C.length=c+1:=⟨C.length - 1,by omega⟩
 have hce:C[c]?=some (C[c]'oQ):=aak oQ
 have hat:=h.at_ c _ hce
 generalize C[c]'oQ=es at *
 refine ⟨((c:Int),8+((encs es).length:Int)),by rw [ajS,show L.l.length - 1=c by omega];exact hat,?_⟩
 simp only
 have hk:L.at (c:Int)=some c:=h.at_k hce
 obtain ⟨i,hi⟩:=h.keeps.has _ (abA hat)
 simp only at hi
 have hcb:c<1048576:=by have:=h.keeps.log.nums _ (abA hat);simp only at this;omega
 have hr:=DI h.keeps.calm.quiet hi
 obtain ⟨a1,a2,a3,a4⟩:=aB.MZ h.keeps.calm hi
 have adb:L.remove M (c:Int)=((L.without c,(M.remove (name (c:Int))).1),0):=by
  unfold Log.remove
  rw [hk]
  simp only
  rw [ac3 a1]
 have hok:=h.keeps.log.remove M (c:Int)
 have hcm:=h.keeps.calm.remove (name (c:Int))
 rw [adb]at hok ⊢
 simp only at hok ⊢
 have hl2:(L.without c).l=L.l.take c:=by
  unfold Log.without
  simp only
  rw [List.eraseIdx_eq_take_drop_succ,aiz oQ,afo]
 have hC2:C.dropLast=C.take c:=by rw [List.dropLast_eq_take,show C.length - 1=c by omega]
 have TQ:∀ k:Nat,k<c→name (k:Int)≠name (c:Int):=fun k hkc e=>by
  have:=Dt oQ oQ oQ oQ e;omega
 have hget:∀ k:Nat,k<c→∀ j,bP (M.remove (name (c:Int))).1.now (name (k:Int))=some j↔bP M.now (name (k:Int))=some j:=fun k hkc j=>by rw [a2,Du (TQ k hkc)]
 have SN:∀ (k:Nat) (fs:List aP),C.dropLast[k]?=some fs→k<c∧C[k]?=some fs:=fun k fs hf=>by
  rw [hC2,ajl]at hf
  split at hf
  ·exact ⟨by omega,hf⟩
  ·cases hf
 refine ⟨trivial,⟨⟨hok,hcm,fun t ht=>?_⟩,?_,fun k fs hf=>?_,fun k fs hf=>?_,fun fs hf=>h.good fs (List.dropLast_subset _ hf),?_,?_,?_,fun k j hkk hj=>?_⟩,?_,fun hf=>?_,?_,rfl⟩
 ·rw [hl2]at ht
  obtain ⟨q,hq⟩:=List.getElem?_of_mem ht
  rw [ajl]at hq
  split at hq
  ·rename_i hqc
   obtain ⟨j,hj⟩:=h.keeps.has t (abA hq)
   have Tj:=h.at_ q _ (aak (show q<C.length by omega))
   rw [hq]at Tj
   cases Tj
   exact ⟨j,(hget q oQ j).2 hj⟩
  ·cases hq
 ·rw [hl2,acJ,ajr];omega
 ·obtain ⟨q1,q2⟩:=SN k fs hf
  rw [hl2,ajl,ac3 q1]
  exact h.at_ k fs q2
 ·obtain ⟨q1,q2⟩:=SN k fs hf
  rw [a3 _ (TQ k q1)]
  exact h.file k fs q2
 ·rw [ajr];omega
 ·exact adr a4 h.used
 ·rw [a2];exact adr (zJ _ _) h.names
 ·rw [ajr]
  rw [a2]at hj
  by_cases e:k=c
  ·exfalso
   rw [e]at hj
   have:=(aji.1 (jk hj)).2
   simp [bne,mF]at this
  ·rw [Du (fun q=>e (by have:=Dt oQ oQ oQ oQ q;omega))]at hj
   have:=h.cover k j hkk hj
   omega
 ·unfold Log.without
  simp only
  rw [ac3 oQ]
 ·unfold Log.without
  simp only
  rw [ac3 oQ]
 ·exact fun p hp=> .inl (aB.Ws hp)
structure oW (L:Log) (C C0:List (List aP)):Prop where
 base:Base C0 L.on C
 fresh:L.fresh=(C.length:Int) - C0.length
theorem HG.back:∀ (j:Nat){K:Nat}{L:Log}{M:ay}{C:List (List aP)},HG K r E B n L M C→j≤C.length→L.fresh=j →
  (L.back j M).2=0∧HG (K+j) r E B n (L.back j M).1.1 (L.back j M).1.2 (C.take (C.length - j))∧(L.back j M).1.1.on=false∧(L.back j M).1.1.fresh=0∧aB.Grown M (L.back j M).1.2∧(L.back j M).1.1.limit=L.limit
 |0,K,L,M,C,h,_,hf=>by
  unfold Log.back
  refine ⟨rfl,?_,rfl,hf,aB.Grown.refl M,rfl⟩
  rw [Nat.sub_zero,aiv]
  exact ⟨⟨h.keeps.log.ahr,h.keeps.calm,h.keeps.has⟩,h.len,h.at_,h.file,h.good,h.count,h.used,h.names,h.cover⟩
 |j+1,K,L,M,C,h,hj,hf=>by
  have hne:C≠[]:=by intro e;rw [e]at hj;simp at hj
  obtain ⟨s,hs,p1,p2,p3,p4,p5,p6⟩:=h.pop hne
  unfold Log.back
  rw [hs]
  simp only
  rw [ac3 p1]
  have hl:=ajr (xs:=C)
  obtain ⟨b1,b2,b3,b4,b5,b6⟩:=HG.back j p2 oQ (by rw [p4 oQ];omega)
  refine ⟨b1,?_,b3,b4,p5.trans b5,b6.trans p6⟩
  rw [show K+(j+1)=K+1+j by omega]
  have e:C.dropLast.take (C.dropLast.length - j)=C.take (C.length - (j+1)):=by
   rw [hl,List.dropLast_eq_take,List.take_take]
   congr 1
   omega
  rw [← e]
  exact b2
theorem Rp.rollback (h:Rp K r E B n L M C) (hf:oW L C C0):(L.rollback M).2=0∧Rp (K+n) r E B n (L.rollback M).1.1 (L.rollback M).1.2 C0∧oW (L.rollback M).1.1 C0 C0∧(L.rollback M).1.1.limit=L.limit:=by
 have hle:=hf.base.le
 have hcn:=h.hg.count
 have hfr:=hf.fresh
 have e:L.fresh.toNat=C.length - C0.length:=oQ
 obtain ⟨b1,b2,b3,b4,b5,b6⟩:=HG.back (C.length - C0.length) h.hg oQ oQ
 have ht:C.take (C.length - (C.length - C0.length))=C0:=by rw [show C.length - (C.length - C0.length)=C0.length by omega];exact hf.base.pre
 rw [ht]at b2
 unfold Log.rollback
 rw [e]
 have hfew:C0.flatten.length≤n:=by
  have e1:=aje (fun z:List (List aP)=>z.flatten.length) (ajs C0.length C)
  simp only [List.flatten_append,aal]at e1
  rw [hf.base.pre]at e1
  have:=h.few
  omega
 refine ⟨b1,(h.grown b2 b5 hfew).mono oQ (acy _) (acy _) (acy _),⟨by rw [b3];exact Base.start C0,by rw [b4];omega⟩,b6⟩
theorem oW.start {L:Log} (ho:L.on=false) (hf:L.fresh=0):oW L C C:=⟨by rw [ho];exact Base.start C,by rw [hf];omega⟩
theorem Rp.pG (h:Rp K r E B n L M C) (hf:oW L C C0) (h0:(aj.encode x).2=0) (hz:(L.append M x).2.2=0):oW (L.append M x).1.1 (put C (L.fits (aj.encode x).1.length) x) C0∧(L.append M x).1.1.on=true:=by
 have key:(L.append M x).1.1.on=true∧(L.append M x).1.1.fresh=L.fresh+(if L.fits (aj.encode x).1.length=true then 0 else 1):=by
  cases hfi:L.fits (aj.encode x).1.length with
  |true=>
   rw [Log.xK h0 hfi]at hz ⊢
   have hon:=BJ hfi
   obtain ⟨s,hl⟩:=h.hg.keeps.log.last hon
   unfold Log.grow at hz ⊢
   rw [hl]at hz ⊢
   simp only at hz ⊢
   split at hz
   ·rename_i g;rw [ac3 g];exact ⟨hon,by simp⟩
   ·rename_i g;exact absurd hz g
  |false=>
   rw [Log.xJ h0 hfi]at hz ⊢
   obtain ⟨_,s2,_,s4,_⟩:=h.hg.keeps.shut
   unfold Log.begin at hz ⊢
   rw [ac3 s2]at hz ⊢
   generalize (L.shut M).1.1=L1 at *
   generalize (L.shut M).1.2=M1 at *
   unfold Log.je at hz ⊢
   by_cases g2:1048576≤L1.next
   ·rw [ac3 g2]at hz
    exact absurd (show (16:Int)=0 from hz) aN
   rw [abw g2]at hz ⊢
   by_cases g3:(M1.create (name L1.next)).2=0
   rotate_left
   ·rw [ac3 g3]at hz
    exact absurd hz g3
   rw [abw (fun q=>q g3)]at hz ⊢
   by_cases g4:((M1.create (name L1.next)).1.append (name L1.next) (mag++(aj.encode x).1)).2=0
   ·rw [ac3 g4]
    exact ⟨rfl,by simp only;rw [s4];simp⟩
   rw [abw g4]at hz
   split at hz
   ·simp only at hz
    split at hz
    ·exact absurd hz aN
    ·rename_i g5;exact absurd hz g5
   ·exact absurd hz g4
 refine ⟨⟨?_,?_⟩,key.1⟩
 ·exact hf.base.put BJ x
 ·rw [key.2,hf.fresh]
  have hne:=h.hg.BI (k:=(aj.encode x).1.length)
  unfold put
  split
  ·have:=akA.2 (hne aQ)
   rw [aal,ajr,adX];omega
  ·rw [aal,adX];omega
theorem aonF {L:Log}{M:ay}{x:aP} (h0:(aj.encode x).2=0) (hz:(L.append M x).2.2≠0) (ho:(L.append M x).1.1.on=true):L.on=true:=by
 cases hf:L.fits (aj.encode x).1.length with
 |true=>exact Seg.BJ hf
 |false=>
  rw [Log.xJ h0 hf]at hz ho
  have hs:(L.shut M).1.1.on=true→L.on=true:=by
   unfold Log.shut
   split
   ·exact fun e=>e
   ·split
    ·rename_i q;exact fun _=>q
    ·exact fun e=>e
  unfold Log.begin at hz ho
  split at ho
  ·rename_i e2
   rw [ac3 e2]at hz
   unfold Log.je at hz ho
   split at ho;· exact hs ho
   rename_i g1;rw [abw g1]at hz
   split at ho;· exact hs ho
   rename_i g2;rw [abw g2]at hz
   split at ho
   ·rename_i g3;rw [ac3 g3]at hz;exact absurd rfl hz
   split at ho <;> exact hs ho
  ·exact hs ho
theorem Rp.KC (h:Rp K r E B n L M C) (hf:oW L C C0) (hk:x.key.length=32) (hz:(L.append M x).2.2≠0):oW (L.append M x).1.1 C C0:=by
 obtain ⟨k1,k2⟩:=h.hg.keeps.append x hk
 obtain ⟨k3,k4,k5,k6⟩:=k2 hz
 refine ⟨⟨hf.base.pre,fun ho=>?_⟩,by rw [k4];exact hf.fresh⟩
 by_cases h0:(aj.encode x).2=0
 ·exact hf.base.gt (aonF h0 hz ho)
 ·rw [Log.Es h0]at ho
  exact hf.base.gt ho
end
def Apart (M M':ay):Prop:=∀ t,(∀ k:Int,t≠name k)→M'.all t=M.all t
section
variable {K r E B n:Nat}{L:Log}{M M' M2:ay}{C C0:List (List aP)}{x:aP}
theorem Apart.refl (M:ay):Apart M M:=fun _ _=>rfl
theorem Apart.trans (h:Apart M M') (k:Apart M' M2):Apart M M2:=fun t ht=>(k t ht).trans (h t ht)
theorem PW (h:Calm K r M) (k:Int) (b:Bs):Apart M (M.append (name k) b).1:=fun t ht=>by
 rcases tN h.quiet (name k) b with ⟨_,q⟩|⟨j,q1,⟨q2,q3⟩|⟨q2,q3⟩⟩
 ·rw [q]
 ·rw [q3]
 ·exact (Eu h q1 b oQ).2.2.2.2 t (ht k)
theorem aa1 (h:Calm K r M) (k:Int):Apart M (M.create (name k)).1:=fun t ht=>by
 rcases BD h.quiet (name k) with ⟨_,_,q⟩|⟨q1,q2,q3,_⟩
 ·rw [q]
 ·exact (EL h q1 q2 q3).2.2.2.2 t (ht k)
theorem Wq (h:Calm K r M) (k:Int):Apart M (M.remove (name k)).1:=fun t ht=>by
 cases hi:bP M.now (name k) with
 |none=>
  have:M.remove (name k)=(M,9):=by unfold ay.remove;rw [h.quiet.off,hi];rfl
  rw [this]
 |some i=>exact (aB.MZ h hi).2.2.1 t (ht k)
theorem ahT (h:Calm K r M) (s:ByteArray):Apart M (M.sync s).1:=fun t _=>(G9 h.ok h.quiet s).all t
theorem ahs (h:Calm K r M) (L:Log):Apart M (L.shut M).1.2∧Calm (K+1) r (L.shut M).1.2:=by
 unfold Log.shut
 split;· exact ⟨Apart.refl M,h.mono oQ⟩
 split
 ·split <;> exact ⟨ahT h _,(h.sync _).mono oQ⟩
 ·exact ⟨Apart.refl M,h.mono oQ⟩
theorem aau (h:Calm K r M) (L:Log) (b:Bs):Apart M (L.je M b).1.2:=by
 have hc:=aa1 h L.next
 have h1:=h.create (name L.next)
 have ha:=hc.trans (PW h1 L.next (mag++b))
 have h2:=h1.append (name L.next) (mag++b)
 unfold Log.je
 split;· exact Apart.refl M
 split;· exact hc
 split;· exact ha
 split
 ·exact ha.trans (Wq h2 _)
 ·exact ha
theorem ad5 (h:Calm K r M) (L:Log) (x:aP):Apart M (L.append M x).1.2:=by
 unfold Log.append
 split;· exact Apart.refl M
 split
 ·unfold Log.grow
  split
  ·exact Apart.refl M
  ·split <;> exact PW h _ _
 ·obtain ⟨s1,s2⟩:=ahs h L
  unfold Log.begin
  split
  ·exact s1.trans (aau s2 _ _)
  ·exact s1
theorem Qh:∀ (j:Nat){K:Nat}{L:Log}{M:ay}{C:List (List aP)},HG K r E B n L M C→j≤C.length→Apart M (L.back j M).1.2
 |0,K,L,M,C,h,_=>Apart.refl M
 |j+1,K,L,M,C,h,hj=>by
  have hne:C≠[]:=by intro e;rw [e]at hj;simp at hj
  obtain ⟨s,hs,p1,p2,_⟩:=h.pop hne
  unfold Log.back
  rw [hs]
  simp only
  rw [ac3 p1]
  have hl:=ajr (xs:=C)
  refine Apart.trans ?_ (Qh j p2 oQ)
  unfold Log.remove
  split
  ·exact Apart.refl M
  ·split <;> exact Wq h.keeps.calm _
theorem agc (h:HG K r E B n L M C) (hf:oW L C C0):Apart M (L.rollback M).1.2:=by
 have hfr:=hf.fresh
 have hle:=hf.base.le
 exact Qh _ h oQ
theorem agd (h:HG K r E B n L M C) (hf:oW L C C0):aB.Grown M (L.rollback M).1.2:=by
 have hle:=hf.base.le
 have hfr:=hf.fresh
 have e:L.fresh.toNat=C.length - C0.length:=oQ
 obtain ⟨_,_,_,_,b5,_⟩:=HG.back (C.length - C0.length) h oQ oQ
 unfold Log.rollback
 rw [e];exact b5
end
structure HF (M:ay) (N:Int) (pl:List (Bs×aU)) (us:List Use):Prop where
 one:M.all (aB.name aB.idx N)=(aS.book Xx.sum aS.qR true (pl.map iY),0)
 two:M.all (aB.name aB.use N)=(aS.book Xx.sum aS.qU false (us.map jc),0)
 num:∀ p∈M.now,(aB.number p.1).2=true→(aB.number p.1).1=N
def NF (M:ay):Prop:=∀ p∈M.now,(aB.number p.1).2=false
def kZ (C:List (List aP)):List Use:=(List.range' 0 C.length).map fun j:Nat=>⟨(j:Int),((mag++encs (C.getD j [])).length:Int),0⟩
structure uZ (C0:List (List aP)) (N:Int) (us:List Use) (pl:List (Bs×aU)):Prop where
 last:N=(C0.length:Int) - 1
 kv:∃ kv,Tab.Lists (ledger (dJ 0 C0)) kv∧(∀ q∈kv,q.1.length=32)∧us=(kZ C0).map (upd kv)∧pl=puts kv
 ends:C0=[]∨∃ es,C0[C0.length - 1]?=some es∧nC es=true
structure o8 (r0 E n B0:Nat) (M:ay) (C0:List (List aP)) (N:Int) (us:List Use):Prop where
 used:B0≤E * (20+28 * n)
 ex:∃ pl,uZ C0 N us pl∧(300000≤r0→n≤33→E≤66→(C0=[]→NF M)∧(C0≠[]→HF M N pl us))
section
variable {K r E B n r0 B0:Nat}{L:Log}{M M':ay}{C C0:List (List aP)}{N:Int}{us:List Use}{pl:List (Bs×aU)}
theorem HF.apart (h:HF M N pl us) (a:Apart M M') (g:aB.Grown M M') (h1:0≤N) (h2:N<1048576):HF M' N pl us:=
 ⟨(a _ fun k e=>aB.NT k N h1 h2 e.symm).trans h.one,(a _ fun k e=>aB.NU k N h1 h2 e.symm).trans h.two,fun p hp hn=>by
  rcases g p hp with q|⟨k,q⟩
  ·exact h.num p q hn
  ·rw [q,aB.yG]at hn;cases hn⟩
theorem NF.apart (h:NF M) (g:aB.Grown M M'):NF M':=fun p hp=>by
 rcases g p hp with q|⟨k,q⟩
 ·exact h p q
 ·rw [q,aB.yG]
theorem o8.mono (h:o8 r0 E n B0 M C0 N us){n' E':Nat} (hn:n≤n') (hE:E≤E'):o8 r0 E' n' B0 M C0 N us:=by
 obtain ⟨u,pl,s,q⟩:=h
 exact ⟨adr u (akI hE oQ),pl,s,fun a b c=>q a oQ oQ⟩
theorem o8.apart (h:o8 r0 E n B0 M C0 N us) (hc:C0.length≤1048576) (a:Apart M M') (g:aB.Grown M M'){n':Nat} (hn:n≤n'):o8 r0 E n' B0 M' C0 N us:=by
 obtain ⟨u,pl,s,q⟩:=h.mono hn (acy E)
 refine ⟨u,pl,s,fun a1 a2 a3=>⟨fun e=>((q a1 a2 a3).1 e).apart g,fun e=>((q a1 a2 a3).2 e).apart a g ?_ ?_⟩⟩
 ·have:=akA.2 e;have:=s.last;omega
 ·have:=s.last;omega
theorem o8.start (hr:M.now=[]):o8 r0 E n 0 M [] (-1) []:=
 ⟨afm _,[],⟨rfl,⟨[],⟨List.Pairwise.nil,fun k v=>⟨fun h=>(by cases h),fun h=>(by cases h)⟩⟩,fun q hq=>(by cases hq),rfl,rfl⟩,.inl rfl⟩,fun _ _ _=>⟨fun _ p hp=>(by rw [hr]at hp;cases hp),fun e=>absurd rfl e⟩⟩
theorem HG.uses (h:HG K r E B n L M C):jl (fun s=>L.bytes M s) L.aF=kZ C:=by
 rw [h.ns]
 unfold jl kZ
 rw [aj9]
 refine akz fun j hj=>?_
 have hl:j<C.length:=by have:=List.mem_range'.1 hj;omega
 have e:=h.bytes (aak hl)
 simp only [Function.comp_apply,e]
 rw [adP,aak hl]
 rfl
end
end Go.Seg
namespace Go.Proofs.YtiglchkhikciiaaGreatDoor
open Go Go.Sl Go.ay Go.MapKept Go.RowKit
section
variable {w0 w:World}{F:List aG}{p m K r ps pn B r0 E B0 n:Nat}{L:Seg.Log}{M:ay}{C:List (List aj.aP)}{seg:Int}{d:Bool}{mp:aj.Bs→Option Seg.aU}
theorem agm (h:Sat w0 w (bG r m seg p ps pn false::F)):Calls Tryz.prog 50 #[ptr r] w (aO fun v w'=>v=errno 0∧w=w'):=by
 have e5:w.cell? ⟨r,5,none⟩=some (.bool false):=h.cellAt 5 _ rfl
 have hok:=oO h
 clear h
 go_enter Tryz.func50,Tryz.ntmps50
 go_wp2_with fail
 refine hok.mono ?_
 rintro ee w1 ⟨v,rfl,rfl,rfl⟩
 go_wp2
 go_ret
 exact ⟨_,rfl,rfl,rfl⟩
set_option maxRecDepth 20000 in
theorem agn (hL:L.Ok) (hM:M.Ok K) (jK:K+6≤1099511627776) (hH:Ro w0 F Half) (hz:(L.commit M).2.2≠0) (h:Sat w0 w (bG r m seg p ps pn true::aI p m L::aH m M::F)) :
  Calls Tryz.prog 50 #[ptr r] w (aO fun v w'=>v=errno (L.commit M).2.2∧Sat w0 w' (bG r m seg p ps pn true::aI p m (L.commit M).1.1::aH m (L.commit M).1.2::F)):=by
 have hcm:=UD (Ro.os hH) hL hM jK (h.sb:Sat w0 w (aI p m L::aH m M::bG r m seg p ps pn true::F))
 generalize L.commit M=q at *
 obtain ⟨⟨L2,M2⟩,n2,e2⟩:=q
 dsimp only at hcm hz ⊢
 have hb:(e2 != 0)=true:=aj6.2 hz
 have e5:w.cell? ⟨r,5,none⟩=some (.bool true):=h.cellAt 5 _ rfl
 have e2':w.cell? ⟨r,2,none⟩=some (.pointer (some ⟨p,0,none⟩)):=h.cellAt 2 _ rfl
 have hok:=oO h
 clear h hz hL hM jK hH
 go_enter Tryz.func50,Tryz.ntmps50
 go_wp2_with fail
 refine hok.mono ?_
 rintro ee w1 ⟨v,rfl,rfl,rfl⟩
 go_wp2_with fail
 refine hcm.mono ?_
 rintro ee w2 ⟨v,rfl,rfl,h2⟩
 clear hcm e5 e2'
 go_wp2_with fail
 go_ret
 exact ⟨_,rfl,rfl,h2.sb⟩
structure Iy (K r0 E B0 n:Nat) (L:Seg.Log) (M:ay) (C C2:List (List aj.aP)) (N:Int) (us:List Rep.Use) (pl:List (aj.Bs×Seg.aU)) (B2:Nat):Prop where
 rp:Seg.Rp K r0 E B0 n L M C2
 row:∃ row,Rep.dJ 0 C2=Rep.dJ 0 C++[row]∧row.2.e=Seg.dA
 flat:C2.flatten=C.flatten++[Seg.dA]
 ends:∃ es,C2≠[]∧C2[C2.length - 1]?=some es∧Rep.nC es=true
 off:L.on=false
 last:N=(C2.length:Int) - 1
 hint:Seg.jY L C2.length us pl
 len:B2≤n∧us.length≤n∧pl.length≤n
 now:Tab.mapOf pl=Rep.eX (Rep.dJ 0 C2)
 st:Seg.uZ C2 N us pl
set_option maxRecDepth 20000 in
theorem agp (hR:Seg.Rp K r0 E B0 n L M C) (hn:n≤200) (hE:E≤200) (hK:K≤1048576) (hz:(L.append M Seg.dA).2.2=0) (hH:Ro w0 F Half) (h:Sat w0 w (bG r m seg p ps pn true::aJ pn mp B::aI p m L::aH m M::F)) :
  Calls Tryz.prog 50 #[ptr r] w (aO fun v w'=>∃ (ps' pi B2:Nat) (uv tv:Value) (N:Int) (us:List Rep.Use) (pl:List (aj.Bs×Seg.aU)) (M3:ay) (C2:List (List aj.aP)) (b:Nat),v=errno 0∧(Iy (K+605) r0 (E+2) (B0+b) (n+1) (L.commit M).1.1 M3 C C2 N us pl B2∧(b≤40+56 * (n+1)∧((n+1) * 400+B0+b≤r0→Seg.HF M3 N pl us))∧∃ a c,tv = .slice a 0 c) ∧
   Sat w0 w' (bG r m seg p ps' pn false::cZ ps' N pi uv tv::aJ pi (Tab.mapOf pl) B2::aC 73 3 uv (us.flatMap bI)::aJ pn mp B::aI p m (L.commit M).1.1::aH m M3::F)):=by
 obtain ⟨z1,z2,C2,z3,z4,z5,z6⟩:=hR.commit oQ hz
 have hcm:=UD (Ro.os hH) hR.hg.keeps.log hR.hg.keeps.calm.ok oQ (h.sb:Sat w0 w (aI p m L::aH m M::bG r m seg p ps pn true::aJ pn mp B::F))
 generalize L.commit M=q at *
 obtain ⟨⟨L2,M2⟩,n2,e2⟩:=q
 dsimp only at hcm z1 z2 z3 ⊢
 subst z1
 have e5:w.cell? ⟨r,5,none⟩=some (.bool true):=h.cellAt 5 _ rfl
 have e2':w.cell? ⟨r,2,none⟩=some (.pointer (some ⟨p,0,none⟩)):=h.cellAt 2 _ rfl
 have hok:=oO h
 have R2:=uQ z3;have Z2:=uQ z2;have Z4:=uQ z4;have Z5:=uQ z5;have Z6:=uQ z6;have HH:=uQ hH;have Hn:=uQ hn;have HE:=uQ hE;have HK:=uQ hK
 clear h hz hR hn hE hK hH z2 z3 z4 z5 z6
 go_enter Tryz.func50,Tryz.ntmps50
 go_wp2_with fail
 refine hok.mono ?_
 rintro ee w1 ⟨v,rfl,rfl,rfl⟩
 go_wp2_with fail
 refine hcm.mono ?_
 rintro ee w2 ⟨v,rfl,rfl,h2⟩
 clear hcm hok e5 e2'
 go_wp2_with (with_reducible apply bY)
 refine ⟨eY (cs':=#[ptr m,.int .i64 seg,ptr p,ptr ps,ptr pn,.bool false]) (h2.sb:Sat w0 w2 (bG r m seg p ps pn true::aI p m L2::aH m M2::aJ pn mp B::F)) ah ah ah bZ bF au ah ?_⟩
 intro w3 h3
 clear h2
 have e2':w3.cell? ⟨r,2,none⟩=some (.pointer (some ⟨p,0,none⟩)):=h3.cellAt 2 _ rfl
 have HL:=uQ R2.out.hg.keeps.log;have HC:=uQ R2.out.hg.keeps.calm
 have hrn:=NG HL.out HC.out.ok (Ro.os HH.out) (adr R2.out.iE (by have:=Hn.out;omega)) R2.out.WU (h3.sb:Sat w0 w3 (aI p m L2::aH m M2::bG r m seg p ps pn false::aJ pn mp B::F))
 clear h3
 go_wp2_with fail
 refine hrn.mono ?_
 rintro ee w5 ⟨v,rfl,ho⟩
 clear hrn e2'
 obtain ⟨hrun,hsl,hpos,htk,hlast⟩:=R2.out.run Z6.out
 have hrun':Rep.run (dB L2 M2) L2.aF = .inr C2.length:=hrun
 unfold tJ at ho
 rw [hrun']at ho
 obtain ⟨ps',pi,uv,tv,av,kv,rfl,⟨hk1,hk3,hk4⟩,⟨⟨ta,tc,rfl⟩,um⟩,h5⟩:=ho
 rw [htk]at hk1 hk4 h5
 rw [hlast,hsl,akb]at h5
 clear um
 have hcn:C2.length≤n+1:=R2.out.hg.count
 have hkn:kv.length≤n+1:=adr hk4 R2.out.iE
 have Ee:=uQ (show Seg.jY L2 C2.length ((Rep.jl (dB L2 M2) L2.aF).map (Rep.upd kv)) (Rep.puts kv) from R2.out.hint hk1 hk3)
 have mZ:=uQ (show Seg.uZ C2 ((C2.length:Int) - 1) ((Rep.jl (dB L2 M2) L2.aF).map (Rep.upd kv)) (Rep.puts kv) from by
  refine ⟨rfl,⟨kv,?_,hk3,?_,rfl⟩,.inr (Z6.out.imp fun es q=>q.2)⟩
  ·have e:=R2.out.rows
   have hk:=hk1
   rw [show Rep.rowsOf (dB L2 M2) L2.aF=Rep.dJ 0 C2 from e]at hk
   exact hk
  ·rw [show Rep.jl (dB L2 M2) L2.aF=Seg.kZ C2 from R2.out.hg.uses])
 have Zd:=uQ (show Tab.mapOf (Rep.puts kv)=Rep.eX (Rep.dJ 0 C2) by rw [Rep.MP hk1];exact aje Rep.eX R2.out.rows)
 have Hpl:=uQ (show (Rep.puts kv).length≤n+1 from adr (by unfold Rep.puts;rw [aaJ];exact akD _ _) hkn)
 have jZ:=uQ hkn
 have mD:=uQ (show ((Rep.jl (dB L2 M2) L2.aF).map (Rep.upd kv)).length≤n+1 by unfold Rep.jl;rw [aaJ,aaJ,hsl];exact hcn)
 have Jf:=uQ (show Tab.Lists (Tab.mapOf (Rep.puts kv)) (Rep.puts kv) from Tab.U1 (Rep.MQ hk1.rise))
 have uT:=uQ hpos;have YS:=uQ hcn
 clear hrun hrun' hk1 hk3 hk4 hlast hsl hpos htk hcn hkn
 generalize (Rep.jl (dB L2 M2) L2.aF).map (Rep.upd kv)=us at *
 generalize kv.length=B2 at *
 generalize Rep.puts kv=pl at *
 have y8:=uQ (aB.jY.idx Ee.out HL.out (by have:=Hpl.out;have:=Hn.out;omega))
 have y9:=uQ (aB.jY.uses Ee.out HL.out (by have:=mD.out;have:=Hn.out;omega))
 have HB:=uQ (show (aS.book Xx.sum aS.qR true (pl.map Rep.iY)).length+(aS.book Xx.sum aS.qU false (us.map Rep.jc)).length≤40+56 * (n+1) by
  rw [aS.EF (k:=3) rfl y8.out.row,aS.EF (k:=3) rfl y9.out.row,aaJ,aaJ,show aS.jE true 3=44 from rfl,show aS.jE false 3=12 from rfl]
  have:=Hpl.out;have:=mD.out;omega)
 have HN:=uQ (show 0≤(C2.length:Int) - 1∧(C2.length:Int) - 1<1048576 by have:=uT.out;have:=YS.out;have:=Hn.out;omega)
 obtain ⟨N,hN⟩:∃ N,N=(C2.length:Int) - 1:=⟨_,rfl⟩
 rw [← hN]at h5
 have YH:=uQ hN
 rw [← hN]at HN mZ
 clear hN
 go_wp2_with (with_reducible apply eU)
 refine ⟨dU mV h5 rfl ?_⟩
 intro b10 w6 h6
 clear h5
 go_wp2_with (with_reducible apply bY)
 refine ⟨fE (dK Rep.dI.zero) h6 ah ah ah bZ au ah ?_⟩
 intro w7 h7
 clear h6
 go_wp2_with (with_reducible apply bY)
 refine ⟨eY (cs':=#[ptr m,.int .i64 seg,ptr p,ptr ps',ptr pn,.bool false]) (h7.sb:Sat w0 w7 (bG r m seg p ps pn false::cZ ps' N pi uv (.slice ta 0 tc)::aJ pi (Tab.mapOf pl) B2::aC 73 3 uv (us.flatMap bI)::aJ pn mp B::aI p m L2::aH m M2::F)) ah ah ah bZ bF au ah ?_⟩
 intro w8 h8
 clear h7
 obtain ⟨bi,hbi⟩:∃ bi,bi=aS.book Xx.sum aS.qR true (pl.map Rep.iY):=⟨_,rfl⟩
 obtain ⟨bu,hbu⟩:∃ bu,bu=aS.book Xx.sum aS.qU false (us.map Rep.jc):=⟨_,rfl⟩
 have hB:=HB.out
 rw [← hbi,← hbu]at hB
 obtain ⟨s1,s2,s3⟩:=R2.out.save (by have:=Hn.out;have:=HE.out;omega) HN.out.1 HN.out.2 bi bu
 have hsv:=adi HC.out.ok (by have:=HK.out;omega) HN.out.1 HN.out.2 pl Jf.out (by have:=jZ.out;have:=Hn.out;omega) Ee.out.key us y8.out y9.out bi bu hbi hbu s3
  (h8.sb:Sat w0 w8 (cZ ps' N pi uv (.slice ta 0 tc)::aJ pi (Tab.mapOf pl) B2::aC 73 3 uv (us.flatMap bI)::aH m M2::bG r m seg p ps' pn false::aJ pn mp B::aI p m L2::F))
 have e0':w8.cell? ⟨r,0,none⟩=some (ptr m):=h8.cellAt 0 _ rfl
 have s4:=aB.Xm (b1:=bi) (b2:=bu) R2.out.hg.keeps.calm R2.out.tmp (by have:=R2.out.hg.names;have:=Hn.out;have:=HE.out;omega) HN.out.1 HN.out.2
 have hu2:=R2.out.hg.used
 generalize aB.save M2 N bi bu=q at *
 obtain ⟨M3,e3⟩:=q
 dsimp only at hsv s1 s2
 have OT:=uQ (show bi.length+bu.length≤40+56 * (n+1)∧((n+1) * 400+B0+(bi.length+bu.length)≤r0→Seg.HF M3 N pl us) from ⟨hB,fun hrm=>by
  have hz:=s4.room oQ
  have hd:=s4.done.resolve_right (by simp only at hz ⊢;omega)
  refine ⟨by rw [← hbi];exact hd.2.1,by rw [← hbu];exact hd.2.2,fun p hp hnm=>?_⟩
  have:=s4.gone hz p hp
  unfold aB.other at this
  rw [hnm]at this
  simpa using this⟩)
 have OM:=uQ (show Iy (K+605) r0 (E+2) (B0+(bi.length+bu.length)) (n+1) L2 M3 C C2 N us pl B2 from ⟨s1.mono oQ (acy _) oQ (acy _),Z4.out,Z5.out,Z6.out,Z2.out,YH.out,Ee.out,⟨jZ.out,mD.out,Hpl.out⟩,Zd.out,mZ.out⟩)
 clear h8 s1 s3 s4 hu2 hB hbi hbu
 go_wp2_with fail
 refine hsv.mono ?_
 rintro ee w9 ⟨v,rfl,rfl,h9⟩
 clear hsv e0'
 rcases s2 with rfl|rfl
 ·go_wp2_with fail
  go_ret
  exact ⟨_,rfl,ps',pi,B2,uv,_,N,us,pl,M3,C2,_,rfl,⟨OM.out,OT.out,ta,tc,rfl⟩,h9.sb⟩
 ·go_wp2_with fail
  go_ret
  exact ⟨_,rfl,ps',pi,B2,uv,_,N,us,pl,M3,C2,_,rfl,⟨OM.out,OT.out,ta,tc,rfl⟩,h9.sb⟩
end
section
variable {w0 w:World}{F:List aG}{p m K r ps pn pi B B2:Nat}{L:Seg.Log}{M:ay}{seg N:Int}{d:Bool}{uv tv:Value}{mi:aj.Bs→Option Seg.aU}
set_option maxRecDepth 20000 in
theorem agx (hL:L.Ok) (hM:M.Ok K) (jK:K+1048576≤1099511627776) (hB:B2≤14000000) (hz:(L.rollback M).2=0) (h:Sat w0 w (bG r m seg p ps pn d::cZ ps N pi uv tv::aJ pi mi B2::aI p m L::aH m M::F)) :
  Calls Tryz.prog 12 #[ptr r] w (aO fun v w'=>∃ q,v=errno 0∧Sat w0 w' (bG r m seg p ps q false::cZ ps N pi uv tv::aJ q mi B2::aJ pi mi B2::aI p m (L.rollback M).1.1::aH m (L.rollback M).1.2::F)):=by
 have hrb:=aeu hL hM jK (h.sb:Sat w0 w (aI p m L::aH m M::bG r m seg p ps pn d::cZ ps N pi uv tv::aJ pi mi B2::F))
 rw [hz]at hrb
 generalize (L.rollback M).1.1=L2 at *
 generalize (L.rollback M).1.2=M2 at *
 have e2':w.cell? ⟨r,2,none⟩=some (.pointer (some ⟨p,0,none⟩)):=h.cellAt 2 _ rfl
 have hok:=oO h
 have HB:=uQ hB
 clear h hz hL hM jK hB
 go_enter Tryz.func12,Tryz.ntmps12
 go_wp2_with fail
 refine hok.mono ?_
 rintro ee w1 ⟨v,rfl,rfl,rfl⟩
 go_wp2_with fail
 refine hrb.mono ?_
 rintro ee w2 ⟨v,rfl,rfl,h2⟩
 clear hrb hok e2'
 have e3':w2.cell? ⟨r,3,none⟩=some (.pointer (some ⟨ps,0,none⟩)):=h2.cellP fG 3 rfl
 have e1':w2.cell? ⟨ps,1,none⟩=some (.pointer (some ⟨pi,0,none⟩)):=h2.cellP iZ 1 rfl
 have hcp:=J4 HB.out (h2.sb:Sat w0 w2 (aJ pi mi B2::aI p m L2::aH m M2::bG r m seg p ps pn d::cZ ps N pi uv tv::F))
 clear h2
 go_wp2_with fail
 refine hcp.mono ?_
 rintro ee w3 ⟨v,rfl,q,rfl,h3⟩
 clear hcp e3' e1'
 go_wp2_with (with_reducible apply bY)
 refine ⟨eY (cs':=#[ptr m,.int .i64 seg,ptr p,ptr ps,ptr q,.bool d]) (h3.sb:Sat w0 w3 (bG r m seg p ps pn d::cZ ps N pi uv tv::aJ q mi B2::aJ pi mi B2::aI p m L2::aH m M2::F)) ah ah ah bZ bF au ah ?_⟩
 intro w4 h4
 clear h3
 go_wp2_with (with_reducible apply bY)
 refine ⟨eY (cs':=#[ptr m,.int .i64 seg,ptr p,ptr ps,ptr q,.bool false]) h4 ah ah ah bZ bF au ah ?_⟩
 intro w5 h5
 go_wp2_with fail
 go_ret
 exact ⟨_,rfl,q,rfl,h5⟩
end
structure rF (K r0 E B0 n:Nat) (L:Seg.Log) (M:ay) (C C0:List (List aj.aP)) (o oc:aj.Bs→Option aj.Bs) (d:Bool) (B B2:Nat) (N:Int) (us:List Rep.Use):Prop where
 rp:Seg.Rp K r0 E B0 n L M C
 pG:Seg.oW L C C0
 now:o=Rep.kK C.flatten
 was:oc=Rep.kK C0.flatten
 clean:d=false→C=C0
 b1:B≤n
 b2:B2≤n
 ext:Seg.o8 r0 E n B0 M C0 N us
def fV (w0:World) (r m:Nat) (seg:Int) (K r0 E n:Nat) (o oc:aj.Bs→Option aj.Bs) (d:Bool) (F:List aG) (w:World):Prop:=
 ∃ (ps p pn pi B B2 B0:Nat) (uv tv:Value) (N:Int) (us:List Rep.Use) (L:Seg.Log) (M:ay) (C C0:List (List aj.aP)),rF K r0 E B0 n L M C C0 o oc d B B2 N us ∧
  Sat w0 w (bG r m seg p ps pn d::aJ pn (Rep.eX (Rep.dJ 0 C)) B::aI p m L::aH m M::cZ ps N pi uv tv::aJ pi (Rep.eX (Rep.dJ 0 C0)) B2::aC 73 3 uv (us.flatMap bI)::F)
theorem GX {K:Nat}{M:ay} (h:M.Ok K) (ho:M.off=false):M.size ByteArray.empty=(0,9):=by
 have hn:bP M.now ByteArray.empty=none:=by
  cases hi:bP M.now ByteArray.empty with
  |none=>rfl
  |some i=>exact absurd rfl (h.fH.ne _ (jk hi))
 unfold ay.size
 rw [ho,hn];rfl
section
variable {w0 w:World}{F:List aG}{r m K r0 E n:Nat}{seg:Int}{o oc:aj.Bs→Option aj.Bs}{d:Bool}{k:aj.Bs}
theorem rF.mono {B0:Nat}{L:Seg.Log}{M:ay}{C C0:List (List aj.aP)}{B B2 K' E' n':Nat}{N:Int}{us:List Rep.Use} (h:rF K r0 E B0 n L M C C0 o oc d B B2 N us) (h1:K≤K') (h2:E≤E') (h3:n≤n'):rF K' r0 E' B0 n' L M C C0 o oc d B B2 N us:=
 ⟨h.rp.mono h1 h2 (acy _) h3,h.pG,h.now,h.was,h.clean,adr h.b1 h3,adr h.b2 h3,h.ext.mono h3 h2⟩
theorem fV.mono {K' E' n':Nat} (h:fV w0 r m seg K r0 E n o oc d F w) (h1:K≤K') (h2:E≤E') (h3:n≤n'):fV w0 r m seg K' r0 E' n' o oc d F w:=by
 obtain ⟨ps,p,pn,pi,B,B2,B0,uv,tv,N,us,L,M,C,C0,hf,hS⟩:=h
 exact ⟨ps,p,pn,pi,B,B2,B0,uv,tv,N,us,L,M,C,C0,hf.mono h1 h2 h3,hS⟩
theorem fV.sat (h:fV w0 r m seg K r0 E n o oc d F w):∃ L:List aG,Sat w0 w L∧(∀ (A:aG) (w':World),Sat w0 w' (A::L)→fV w0 r m seg K r0 E n o oc d (A::F) w')∧(∀ w',Sat w0 w' L→Sat w0 w' F):=by
 obtain ⟨ps,p,pn,pi,B,B2,B0,uv,tv,N,us,L,M,C,C0,hf,hS⟩:=h
 exact ⟨_,hS,fun A w' hw=>⟨ps,p,pn,pi,B,B2,B0,uv,tv,N,us,L,M,C,C0,hf,hw.sb⟩,fun w' hw=>hw.sb⟩
theorem fV.drop {A:aG} (h:fV w0 r m seg K r0 E n o oc d (A::F) w):fV w0 r m seg K r0 E n o oc d F w:=by
 obtain ⟨ps,p,pn,pi,B,B2,B0,uv,tv,N,us,L,M,C,C0,hf,hS⟩:=h
 exact ⟨ps,p,pn,pi,B,B2,B0,uv,tv,N,us,L,M,C,C0,hf,hS.sb⟩
theorem rF.small {B0:Nat}{L:Seg.Log}{M:ay}{C C0:List (List aj.aP)}{B B2:Nat}{N:Int}{us:List Rep.Use} (h:rF K r0 E B0 n L M C C0 o oc d B B2 N us):C0.length≤1048576:=by
 have h1:=h.pG.base.le
 have h2:=h.rp.hg.len
 have h3:=Seg.Nc _ 0 h.rp.hg.keeps.log.rise (fun x hx=>by obtain ⟨s,hs,rfl⟩:=acK.1 hx;exact (h.rp.hg.keeps.log.nums s hs).1) (fun x hx=>by obtain ⟨s,hs,rfl⟩:=acK.1 hx;exact (h.rp.hg.keeps.log.nums s hs).2) aN
 rw [aaJ]at h3
 omega
theorem rF.grow {B0:Nat}{L:Seg.Log}{M:ay}{C C0:List (List aj.aP)}{B B2 n':Nat}{N:Int}{us:List Rep.Use} (h:rF K r0 E B0 n L M C C0 o oc d B B2 N us) (x:aj.aP) (hn:n≤n'):Seg.o8 r0 E n' B0 (L.append M x).1.2 C0 N us:=
 h.ext.apart h.small (Seg.ad5 h.rp.hg.keeps.calm L x) (aB.FD L M x) hn
theorem rF.done {B0 b Iu K':Nat}{L L2:Seg.Log}{M M3:ay}{C C0 C2:List (List aj.aP)}{B B2:Nat}{N N2:Int}{us Oi:List Rep.Use}{pl:List (aj.Bs×Seg.aU)} (h:rF K r0 E B0 n L M C C0 o oc d B B2 N us) (hc:Iy K' r0 (E+2) (B0+b) (n+1) L2 M3 C C2 N2 Oi pl Iu) (hb:b≤40+56 * (n+1)∧((n+1) * 400+B0+b≤r0→Seg.HF M3 N2 pl Oi)):Seg.o8 r0 (E+2) (n+1) (B0+b) M3 C2 N2 Oi:=by
 have u:=h.ext.used
 have u2:B0+b≤(E+2) * (20+28 * (n+1)):=by
  rw [akt]
  exact Nat.add_le_add (adr u (Nat.mul_le_mul_left _ oQ)) oQ
 refine ⟨u2,pl,hc.st,fun a1 a2 a3=>⟨fun e=>absurd e (by obtain ⟨es,e1,_⟩:=hc.ends;exact e1),fun _=>hb.2 ?_⟩⟩
 have:=adr u2 (akI a3 (show 20+28 * (n+1)≤20+28 * 33 by omega))
 omega
theorem ahF (hn:n≤200) (hE:E≤200) (hK:K≤1048576) (hk:k.length=32) (data:aj.Bs) (da:Option Addr) (dc:Nat) (hd:Ro w0 F (bg 1 (.slice da data.length dc) (aA data))) (qK:data.length≤300) (hH:Ro w0 F Half) (h:fV w0 r m seg K r0 E n o oc d F w) :
  Calls Tryz.prog 21 #[ptr r,.agg (aA k).toArray,.slice da data.length dc] w (aO fun v w'=>(v=errno 0∧fV w0 r m seg (K+4) r0 E (n+1) (Tab.put o k data) oc true F w')∨(v=errno 11∧fV w0 r m seg (K+4) r0 E n o oc d F w')):=by
 obtain ⟨ps,p,pn,pi,B,B2,B0,uv,tv,N,us,L,M,C,C0,hf,hS⟩:=h
 have he:=Seg.acD hk data qK
 have hnm:=hf.rp.hg.names
 rcases hf.rp.hg.JH (x:=⟨0,k,data⟩) oQ oQ he with hz|hz
 ·obtain ⟨C',y1,y2,y3,row,y4,y5,y6⟩:=hf.rp.yes (x:=⟨0,k,data⟩) oQ hk qK he hz
  obtain ⟨fr,_⟩:=hf.rp.pG hf.pG he hz
  rw [← y2]at fr
  have ji:Tab.put (Rep.eX (Rep.dJ 0 C)) k (L.append M ⟨0,k,data⟩).2.1=Rep.eX (Rep.dJ 0 C'):=by
   rw [y4,Rep.aeZ (by unfold Rep.eu;rw [y5]),y6]
   unfold Rep.fZ
   rw [y5]
  refine (WV (by have:=hf.b1;omega) hk data da dc (Ro.os hd) oQ hf.rp.hg.keeps.log hf.rp.hg.keeps.calm.ok oQ (Ro.os hH) hz (hS.sb:Sat w0 w (bG r m seg p ps pn d::aJ pn (Rep.eX (Rep.dJ 0 C)) B::aI p m L::aH m M::cZ ps N pi uv tv::aJ pi (Rep.eX (Rep.dJ 0 C0)) B2::aC 73 3 uv (us.flatMap bI)::F))).mono ?_
  rintro e w' ⟨v,rfl,rfl,h2⟩
  rw [ji]at h2
  refine ⟨_,rfl,.inl ⟨rfl,ps,p,pn,pi,B+1,B2,B0,uv,tv,N,us,_,_,C',C0,⟨y1,fr,?_,hf.was,fun e=>(by cases e),by have:=hf.b1;omega,by have:=hf.b2;omega,hf.grow _ (aj8 _)⟩,h2⟩⟩
  rw [y3,Rep.ae8 rfl,hf.now]
 ·have hz':(L.append M ⟨0,k,data⟩).2.2≠0:=by rw [hz];decide
  refine (agw (by have:=hf.b1;omega) hk data da dc (Ro.os hd) oQ hf.rp.hg.keeps.log hf.rp.hg.keeps.calm.ok oQ (Ro.os hH) hz' (hS.sb:Sat w0 w (bG r m seg p ps pn d::aJ pn (Rep.eX (Rep.dJ 0 C)) B::aI p m L::aH m M::cZ ps N pi uv tv::aJ pi (Rep.eX (Rep.dJ 0 C0)) B2::aC 73 3 uv (us.flatMap bI)::F))).mono ?_
  rintro e w' ⟨v,rfl,rfl,h2⟩
  rw [hz]
  exact ⟨_,rfl,.inr ⟨rfl,ps,p,pn,pi,B,B2,B0,uv,tv,N,us,_,_,C,C0,⟨hf.rp.no hk hz',hf.rp.KC hf.pG hk hz',hf.now,hf.was,hf.clean,hf.b1,hf.b2,hf.grow _ (acy _)⟩,h2⟩⟩
theorem ahd (hn:n≤200) (hE:E≤200) (hK:K≤1048576) (hk:k.length=32) (hH:Ro w0 F Half) (h:fV w0 r m seg K r0 E n o oc d F w) :
  Calls Tryz.prog 49 #[ptr r,.agg (aA k).toArray] w (aO fun v w'=>(v=errno 0∧fV w0 r m seg (K+4) r0 E (n+1) (Tab.del o k) oc true F w')∨((v=errno 11∨v=errno 9)∧fV w0 r m seg (K+4) r0 E n o oc d F w')):=by
 obtain ⟨ps,p,pn,pi,B,B2,B0,uv,tv,N,us,L,M,C,C0,hf,hS⟩:=h
 have he:=Seg.acC hk
 have hnm:=hf.rp.hg.names
 have hS':Sat w0 w (bG r m seg p ps pn d::aJ pn (Rep.eX (Rep.dJ 0 C)) B::aI p m L::aH m M::cZ ps N pi uv tv::aJ pi (Rep.eX (Rep.dJ 0 C0)) B2::aC 73 3 uv (us.flatMap bI)::F):=hS
 cases hm:Rep.eX (Rep.dJ 0 C) k with
 |none=>
  refine (agr (by have:=hf.b1;omega) hk hm hS').mono ?_
  rintro e w' ⟨v,rfl,rfl,h2⟩
  exact ⟨_,rfl,.inr ⟨.inr rfl,ps,p,pn,pi,B,B2,B0,uv,tv,N,us,_,_,C,C0,hf.mono oQ (acy _) (acy _),h2⟩⟩
 |some pl=>
  rcases hf.rp.hg.JH (x:=⟨1,k,[]⟩) oQ oQ he with hz|hz
  ·obtain ⟨C',y1,y2,y3,row,y4,y5,y6⟩:=hf.rp.yes (x:=⟨1,k,[]⟩) oQ hk (afm _) he hz
   obtain ⟨fr,_⟩:=hf.rp.pG hf.pG he hz
   rw [← y2]at fr
   have ji:Tab.del (Rep.eX (Rep.dJ 0 C)) k=Rep.eX (Rep.dJ 0 C'):=by
    rw [y4,Rep.aeY (by unfold Rep.eu;rw [y5])]
    unfold Rep.fZ
    rw [y5]
   refine (ags (by have:=hf.b1;omega) hk pl hm hf.rp.hg.keeps.log hf.rp.hg.keeps.calm.ok oQ (Ro.os hH) hz hS').mono ?_
   rintro e w' ⟨v,rfl,rfl,h2⟩
   rw [ji]at h2
   refine ⟨_,rfl,.inl ⟨rfl,ps,p,pn,pi,B,B2,B0,uv,tv,N,us,_,_,C',C0,⟨y1,fr,?_,hf.was,fun e=>(by cases e),by have:=hf.b1;omega,by have:=hf.b2;omega,hf.grow _ (aj8 _)⟩,h2⟩⟩
   rw [y3,Rep.ae7 rfl,hf.now]
  ·have hz':(L.append M ⟨1,k,[]⟩).2.2≠0:=by rw [hz];decide
   refine (agq (by have:=hf.b1;omega) hk pl hm hf.rp.hg.keeps.log hf.rp.hg.keeps.calm.ok oQ (Ro.os hH) hz' hS').mono ?_
   rintro e w' ⟨v,rfl,rfl,h2⟩
   rw [hz]
   exact ⟨_,rfl,.inr ⟨.inl rfl,ps,p,pn,pi,B,B2,B0,uv,tv,N,us,_,_,C,C0,⟨hf.rp.no hk hz',hf.rp.KC hf.pG hk hz',hf.now,hf.was,hf.clean,hf.b1,hf.b2,hf.grow _ (acy _)⟩,h2⟩⟩
theorem ahc (hn:n≤199) (hE:E≤200) (hK:K≤1048576) (hH:Ro w0 F Half) (h:fV w0 r m seg K r0 E n o oc d F w) :
  Calls Tryz.prog 50 #[ptr r] w (aO fun v w'=>(v=errno 0∧fV w0 r m seg (K+605) r0 (E+2) (n+1) o o false F w')∨(v=errno 11∧fV w0 r m seg (K+605) r0 E n o oc d F w')):=by
 obtain ⟨ps,p,pn,pi,B,B2,B0,uv,tv,N,us,L,M,C,C0,hf,hS⟩:=h
 have hS':Sat w0 w (bG r m seg p ps pn d::aJ pn (Rep.eX (Rep.dJ 0 C)) B::aI p m L::aH m M::cZ ps N pi uv tv::aJ pi (Rep.eX (Rep.dJ 0 C0)) B2::aC 73 3 uv (us.flatMap bI)::F):=hS
 have hnm:=hf.rp.hg.names
 cases d with
 |false=>
  refine (agm hS').mono ?_
  rintro e w' ⟨v,rfl,rfl,rfl⟩
  have hoc:o=oc:=by rw [hf.now,hf.was,hf.clean rfl]
  refine ⟨_,rfl,.inl ⟨rfl,?_⟩⟩
  have h2:fV w0 r m seg K r0 E n o oc false F w:=⟨ps,p,pn,pi,B,B2,B0,uv,tv,N,us,L,M,C,C0,hf,hS⟩
  rw [← hoc]at h2
  exact h2.mono oQ oQ oQ
 |true=>
  rcases hf.rp.hg.JH (x:=Seg.dA) oQ oQ ah with hz|hz
  ·refine (agp hf.rp oQ hE hK hz (Ro.os hH) hS').mono ?_
   rintro e w' ⟨v,rfl,ps',pi',Iu,uv',tv',N',us',pl,M3,C2,bb,rfl,⟨hc,hcf,ta,tc,rfl⟩,h2⟩
   obtain ⟨row,y4,y5⟩:=hc.row
   have ji:Rep.eX (Rep.dJ 0 C)=Rep.eX (Rep.dJ 0 C2):=by
    rw [y4,Rep.aeW (by unfold Rep.eu;rw [y5];rfl)]
   have TR:o=Rep.kK C2.flatten:=by rw [hc.flat,Rep.ae6 rfl,hf.now]
   obtain ⟨cz,_⟩:=hf.rp.commit oQ hz
   obtain ⟨_,_,cf,_⟩:=Seg.aaW hf.rp.hg.keeps cz
   rw [hc.now,ji]at h2
   exact ⟨_,rfl,.inl ⟨rfl,ps',p,pn,pi',B,Iu,B0+bb,uv',_,N',us',_,M3,C2,C2,⟨hc.rp,Seg.oW.start hc.off cf,TR,TR,fun _=>rfl,by have:=hf.b1;omega,hc.len.1,hf.done hc hcf⟩,h2.sb⟩⟩
  ·have hz':(L.append M Seg.dA).2.2≠0:=by rw [hz];decide
   obtain ⟨n1,n2⟩:=hf.rp.aaV hz'
   have hc:(L.commit M).2.2≠0:=by rw [n1];exact hz'
   refine (agn hf.rp.hg.keeps.log hf.rp.hg.keeps.calm.ok oQ (Ro.os hH) hc (hS'.sb:Sat w0 w (bG r m seg p ps pn true::aI p m L::aH m M::aJ pn (Rep.eX (Rep.dJ 0 C)) B::cZ ps N pi uv tv::aJ pi (Rep.eX (Rep.dJ 0 C0)) B2::aC 73 3 uv (us.flatMap bI)::F))).mono ?_
   rintro e w' ⟨v,rfl,rfl,h2⟩
   rw [n1,hz]
   rw [n2]at h2
   exact ⟨_,rfl,.inr ⟨rfl,ps,p,pn,pi,B,B2,B0,uv,tv,N,us,_,_,C,C0,⟨(hf.rp.no rfl hz').mono oQ (acy _) (acy _) (acy _),hf.rp.KC hf.pG rfl hz',hf.now,hf.was,hf.clean,hf.b1,hf.b2,hf.grow _ (acy _)⟩,h2.sb⟩⟩
theorem XG (hn:n≤200) (hK:K≤1048576) (h:fV w0 r m seg K r0 E n o oc d F w) :
  Calls Tryz.prog 12 #[ptr r] w (aO fun v w'=>v=errno 0∧fV w0 r m seg (K+200) r0 E n oc oc false F w'):=by
 obtain ⟨ps,p,pn,pi,B,B2,B0,uv,tv,N,us,L,M,C,C0,hf,hS⟩:=h
 obtain ⟨b1,b2,b3,_⟩:=hf.rp.rollback hf.pG
 refine (agx hf.rp.hg.keeps.log hf.rp.hg.keeps.calm.ok oQ (by have:=hf.b2;omega) b1 (hS.sb:Sat w0 w (bG r m seg p ps pn d::cZ ps N pi uv tv::aJ pi (Rep.eX (Rep.dJ 0 C0)) B2::aI p m L::aH m M::aC 73 3 uv (us.flatMap bI)::F))).mono ?_
 rintro e w' ⟨v,rfl,q,rfl,h2⟩
 exact ⟨_,rfl,rfl,ps,p,q,pi,B2,B2,B0,uv,tv,N,us,_,_,C0,C0,⟨b2.mono oQ (acy _) (acy _) (acy _),b3,hf.was,hf.was,fun _=>rfl,hf.b2,hf.b2,hf.ext.apart hf.small (Seg.agc hf.rp.hg hf.pG) (Seg.agd hf.rp.hg hf.pG) (acy _)⟩,h2.sb⟩
theorem ahB {M:ay}{limit:Int}{K:Nat} (h1:128≤limit) (h2:limit≤1048576) (hM:Seg.Calm K r0 M) (hK:K≤1048576) (ji:M.now=[]) (hH:Ro w0 F Half) (h:Sat w0 w (aH m M::F)) :
  Calls Tryz.prog 10 #[ptr m,.int .i64 limit] w (aO fun v w'=>∃ r,v = .tuple #[ptr r,.agg (dK Rep.dI.zero),errno 0]∧fV w0 r m limit K r0 0 0 (fun _=>none) (fun _=>none) false F w'):=by
 have hl:M.list=[]:=by rw [hM.quiet.list,ji];rfl
 have hfr:Seg.fresh M limit=⟨limit,[],false,0⟩:=by
  unfold Seg.fresh Seg.found
  rw [hl]
  rfl
 have ha:Seg.alive M=0:=by unfold Seg.alive;rw [GX hM.ok hM.quiet.off];rfl
 have hu:M.used=0:=by unfold ay.used;rw [ji];rfl
 refine (WH h1 h2 hM.ok hK ha (by rw [hfr];rfl) hl hH h).mono ?_
 rintro e w' ⟨v,rfl,r,p,ps,pi,pn,uv,rfl,hS⟩
 have hok:=Seg.BL hM.ok limit h1 h2
 rw [hfr]at hS hok
 refine ⟨_,rfl,r,rfl,ps,p,pn,pi,0,0,0,uv,_,-1,[],_,M,[],[],⟨⟨⟨⟨hok,hM,fun s hs=>by cases hs⟩,rfl,fun k es hk=>(by simp at hk),fun k es hk=>(by simp at hk),fun es he=>(by cases he),acy _,by rw [hu];omega,by rw [ji];exact acy _,fun k i hk hi=>by rw [ji]at hi;cases hi⟩,by rw [ji];rfl,acy _,fun p hp=>by rw [ji]at hp;cases hp⟩,Seg.oW.start rfl rfl,rfl,rfl,fun _=>rfl,acy _,acy _,Seg.o8.start ji⟩,hS.sb⟩
end
end Go.Proofs.YtiglchkhikciiaaGreatDoor
namespace Go.Rep
open Go.aj (Bs)
structure qH where
 kind:Int
 key:Bs
 data:Bs
 n:Int
 m:Int
 l:List Int
def qH.cut (c:qH):qH:=⟨c.kind,c.key,c.data.take 200,c.n,c.m,c.l.take 60⟩
def zy (l:List qH) (n:Nat):List qH:=(l.take n).map qH.cut
end Go.Rep
namespace Go.Proofs.YtiglchkhikciiaaGreatDoor
open Go Go.Sl Go.ay Go.MapKept Go.RowKit
structure QD where
 c:Rep.qH
 dv:Value
 lv:Value
def lM (d:QD):List Value:=(.int .i64 d.c.kind::aA d.c.key)++d.dv::[.int .i64 d.c.n,.int .i64 d.c.m,d.lv]
def gB (d:QD):Array Value:=(lM d).toArray
def jO (ds:List QD):List Value:=ds.flatMap lM
structure JD (w0:World) (F:List aG) (d:QD):Prop where
 key:d.c.key.length=32
 rd:Ro w0 F (bg 1 d.dv (aA d.c.data))
 cap:kV d.dv
 rl:Ro w0 F (bg 1 d.lv (ints d.c.l))
 Qr:kV d.lv
def OJ:QD:=⟨⟨0,aj.zero32,[],0,0,[]⟩,.slice none 0 0,.slice none 0 0⟩
theorem zQo:jy Tryz.prog 39=some (.agg (gB OJ)):=by kernel_rfl
theorem Fq:(Tryz.prog.info? 39).map (·.size)=some 37:=by kernel_rfl
theorem DF (d:QD) (hk:d.c.key.length=32):(lM d).length=37:=by
 unfold lM
 rw [aal,aja,aV,hk];rfl
theorem wI (d:QD) (hk:d.c.key.length=32):(gB d).size=37:=by unfold gB;rw [aaI,DF d hk]
theorem MR (d:QD) (hk:d.c.key.length=32):(Value.int .i64 d.c.kind::aA d.c.key).length=33:=by rw [aja,aV,hk]
theorem Gm (d:QD):(lM d)[0]?=some (.int .i64 d.c.kind):=rfl
theorem Gl (d:QD){j:Nat}{v:Value} (h:(aA d.c.key)[j]?=some v):(lM d)[1+j]?=some v:=by
 unfold lM
 rw [alm,ajN,aj3,adV (abl.1 h).1]
 exact h
theorem zY (d:QD) (hk:d.c.key.length=32) (j:Nat):(lM d)[33+j]?=(d.dv::[.int .i64 d.c.n,.int .i64 d.c.m,d.lv]:List Value)[j]?:=by
 unfold lM
 have h:=MR d hk
 rw [adQ oQ,h,akY]
theorem MO (l1 l2:List Value) (x y:Value){i:Nat} (hi:l1.length=i):dM (l1++x::l2).toArray i [y]=(l1++y::l2).toArray:=by
 subst hi
 apply nT
 rw [jU _ _ _ (by simp)]
 simp only [adX]
 rw [List.take_left,ak7,aiz oQ,akY,ajd,ak5,alu,adR,List.singleton_append]
theorem afI (d:QD) (hk:d.c.key.length=32) (b:aj.Bs) (dv:Value):dM (gB d) 33 [dv]=gB ⟨⟨d.c.kind,d.c.key,b,d.c.n,d.c.m,d.c.l⟩,dv,d.lv⟩:=
 MO _ _ _ _ (MR d hk)
theorem afJ (d:QD) (hk:d.c.key.length=32) (l:List Int) (lv:Value):dM (gB d) 36 [lv]=gB ⟨⟨d.c.kind,d.c.key,d.c.data,d.c.n,d.c.m,l⟩,d.dv,lv⟩:=by
 have e:∀ d:QD,lM d=((.int .i64 d.c.kind::aA d.c.key)++[d.dv,.int .i64 d.c.n,.int .i64 d.c.m])++d.lv::[]:=fun d=>by
  unfold lM;rw [adR];rfl
 unfold gB
 rw [e,e]
 exact MO _ _ _ _ (by rw [aal,MR d hk];rfl)
theorem afL (d:QD) (hk:d.c.key.length=32):(gB d).getD 33 undef=d.dv:=by
 have:=zY d hk 0
 rw [akn]
 unfold gB
 rw [abL,this];rfl
theorem afM (d:QD) (hk:d.c.key.length=32):(gB d).getD 36 undef=d.lv:=by
 have:=zY d hk 3
 rw [akn]
 unfold gB
 rw [abL,this];rfl
theorem Gn {ds:List QD} (hk:∀ d∈ds,d.c.key.length=32){i:Nat}{d:QD} (hi:ds[i]?=some d){j:Nat}{y:Value} (hj:(lM d)[j]?=some y):(jO ds)[i * 37+j]?=some y:=by
 induction ds generalizing i with
 |nil=>simp at hi
 |cons x ds ih=>
  have hx:=DF x (hk x (.head _))
  unfold jO at *
  rw [ai7]
  cases i with
  |zero=>
   obtain rfl:x=d:=by simpa using hi
   rw [adV (by have:=(abl.1 hj).1;omega),Nat.zero_mul,aen]
   exact hj
  |succ i=>
   rw [adQ (by rw [hx];omega),hx,show (i+1) * 37+j - 37=i * 37+j by omega]
   exact ih (fun d hd=>hk d (.tail _ hd)) (by simpa using hi)
theorem Gp {ds:List QD} (hk:∀ d∈ds,d.c.key.length=32):(jO ds).length=37 * ds.length:=by
 unfold jO
 induction ds with
 |nil=>rfl
 |cons x ds ih=>rw [ai7,aal,DF x (hk x (.head _)),ih (fun d hd=>hk d (.tail _ hd)),aja];omega
theorem afN (ds:List QD) (d:QD):jO (ds++[d])=jO ds++(gB d).toList:=by unfold jO gB;rw [ajj];simp
def pz (ds:List QD):aG:=stars (ds.map fun d=>bJ d.dv d.c.data)
theorem aa9 (ds:List QD) (d:QD):pz (ds++[d])=star (bJ d.dv d.c.data) (pz ds):=by
 unfold pz
 rw [aey,pK,Aj]
 show star (stars [bJ d.dv d.c.data]) _=_
 rw [Ak]
theorem V6 (d:QD){a1 a2:Option Addr}{n1 n2 c1 c2:Nat} (h1:d.dv = .slice a1 n1 c1) (h2:d.lv = .slice a2 n2 c2):(gB d).toList.all (·.oneCell')=true:=by
 unfold gB lM
 have hb:(aA d.c.key).all (·.oneCell')=true:=qJ _
 rw [adM,ajZ,alE,hb,h1,h2]
 rfl
section
variable {w0 w:World}{F R:List aG}{v bv dv x lv:Value}
theorem abW {ds es:List QD}{i:Nat} (h:es.map (·.c)=((ds.map (·.c)).take i).map Rep.qH.cut) (hk:∀ p∈ds,p.c.key.length=32):∀ p∈es,p.c.key.length=32:=by
 intro p hp
 have h1:p.c∈es.map (·.c):=acK.2 ⟨p,hp,rfl⟩
 rw [h,acK]at h1
 obtain ⟨x,hx,he⟩:=h1
 obtain ⟨q,hq,rfl⟩:=acK.1 (ajm hx)
 rw [← he]
 exact hk q hq
set_option maxRecDepth 20000 in
theorem abV (ds:List QD) (n:Nat) (hn:n≤1048576) (hr:Ro w0 F (bg 37 lv (jO ds))) (he:∀ d∈ds,JD w0 F d) (h:Sat w0 w F) :
  Calls Tryz.prog 7 #[lv,.int .i64 n] w (aO fun v w'=>∃ (es:List QD) (ov:Value),v=ov∧es.map (·.c)=Rep.zy (ds.map (·.c)) n∧(∀ d∈es,Ro w0 F (bg 1 d.lv (ints d.c.l))∧kV d.lv) ∧
   Sat w0 w' (aC 39 37 ov (jO es)::pz es::F)):=by
 obtain ⟨la,ln,lc,rfl,hl,_⟩:=hr w h
 rw [Gp (fun p hp=>(he p hp).key)]at hl
 obtain rfl:ln=ds.length:=by omega
 have Hr:=uQ hr;have He:=uQ he;have Hn:=uQ hn
 clear hr he hl hn
 go_enter Tryz.func7,Tryz.ntmps7
 go_wp2_with fail
 go_loopg [5,6] ds.length (fun g ov iq wr=>∃ (i:Nat) (es:List QD),g=ds.length - i∧i≤ds.length∧i≤n∧iq = .int .i64 i∧es.map (·.c)=((ds.map (·.c)).take i).map Rep.qH.cut∧(∀ d∈es,Ro w0 F (bg 1 d.lv (ints d.c.l))∧kV d.lv) ∧
  Sat w0 wr (aC 39 37 ov (jO es)::pz es::F))
 case atStart=>exact ⟨0,[],rfl,afm _,afm _,rfl,rfl,(fun d hd=>by cases hd),Sat.fD.2 (Sat.emp.2 h)⟩
 case round=>
  obtain ⟨i,es,rfl,hi,hin,rfl,hfs,hls,hS⟩:=hrel
  have pU:=uQ hfs;have Hi:=uQ hi;have aB:=uQ hin;have Jh:=uQ hls
  clear h hfs hi hin hls
  by_cases hlt:i<ds.length∧i<n
  ·obtain ⟨hl1,hl2⟩:=hlt
   have c1:(i:Int)<(ds.length:Int):=oQ
   have c2:(i:Int)<(n:Int):=oQ
   have hwi:IntKind.i64.wrap ((i:Int)+1)=(i:Int)+1:=acI _ (by have:=Hn.out;omega)
   have Je:=uQ hl1;have Hl2:=uQ hl2
   have sZ:=uQ (abW pU.out (fun p hp=>(He.out p hp).key))
   clear hl1 hl2
   obtain ⟨x,hx⟩:∃ x,ds[i]?=some x:=⟨_,aak Je.out⟩
   have hxe:=He.out x (abA hx)
   have hk:∀ p∈ds,p.c.key.length=32:=fun p hp=>(He.out p hp).key
   have hcut:=uQ (show es.map (·.c)++[x.c.cut]=((ds.map (·.c)).take (i+1)).map Rep.qH.cut by
    rw [pU.out,ajL,aey,aix,hx];rfl)
   have Uc:Ro w0 (aC 39 37 u5 (jO es)::pz es::F) (bg 37 (.slice la ds.length lc) (jO ds)):=Ro.os Hr.out
   have hx0:(jO ds)[i * 37+0]?=some (.int .i64 x.c.kind):=Gn hk hx rfl
   obtain ⟨bk,off,rfl,_⟩:=nU (Uc _ hS) hx0
   have HG:=uQ (show ∀ w' L,Ro w0 L (bg 37 (.slice (some ⟨bk,off,none⟩) ds.length lc) (jO ds))→Sat w0 w' L→∀ j v,(lM x)[j]?=some v→w'.cell? ⟨bk,off+i * 37+j,none⟩=some v by
    intro w' L hL hw j v hj
    obtain ⟨ED,off',Ce,hcell⟩:=nU (hL w' hw) hx0
    cases Ce
    have:=hcell _ _ (Gn hk hx hj)
    rw [← akU]at this
    exact this)
   obtain ⟨⟨kind,key,data,xn,xm,xl⟩,dv,lv⟩:=x
   obtain ⟨hkey,hrd,hcap,hrl,acT⟩:=hxe
   obtain ⟨da,dn,dc,rfl,hdn,hdc⟩:=hcap
   obtain ⟨qM,qP,qN,rfl,TJ,TI⟩:=acT
   have hdl:dn=data.length:=by
    obtain ⟨a',n',c',he,hl,_⟩:=hrd _ (hS.sb)
    cases he
    rw [aV,aiw]at hl;exact hl.symm
   subst hdl
   have Zm:=uQ hrd;have Hrl:=uQ hrl;have dO:=uQ (show key.length=32 from hkey)
   have Ph:=uQ (V6 ⟨⟨kind,key,data,xn,xm,xl⟩,.slice da data.length dc,.slice qM qP qN⟩ rfl rfl)
   have Bo:=uQ (wI ⟨⟨kind,key,data,xn,xm,xl⟩,.slice da data.length dc,.slice qM qP qN⟩ hkey)
   clear hx hk Uc hx0 hrd hrl hkey
   generalize hd1:(⟨⟨kind,key,data,xn,xm,xl⟩,.slice da data.length dc,.slice qM qP qN⟩:QD)=d1 at HG Ph Bo
   have Tn:d1.c.key.length=32:=by rw [← hd1];exact dO.out
   have Tm:d1.dv = .slice da data.length dc:=by rw [← hd1]
   have Tq:d1.lv = .slice qM qP qN:=by rw [← hd1]
   have Hd1:=uQ hd1;have D7:=uQ Tn;have YV:=uQ Tm;have YW:=uQ Tq
   clear hd1 Tn Tm Tq
   go_wp2_with (first
    |((with_reducible refine bD ⟨?_⟩);refine gU (b:=bk) (o:=off+i * 37) (lM d1) ah (HG.out _ _ (Ro.os Hr.out) hS) Tryz.underlying39 rfl (by rw [DF _ D7.out];exact Fq) ?_)
    |(with_reducible apply eU))
   refine ⟨dU zQo hS rfl ?_⟩
   intro q w1 hS1
   go_wp2_with (with_reducible apply bY)
   refine ⟨fE (gB d1) hS1 (cs:=gB OJ) ah ah (Bo.out.trans (wI OJ rfl).symm) eF (by rw [Bo.out];exact Fq) Ph.out ?_⟩
   intro w2 hS2
   clear hS hS1
   go_wp2_with ((with_reducible refine bD ⟨?_⟩);refine dV (b:=q) (o:=33) (v:= .slice da data.length dc) hS2 ah aY (by rw [Bo.out];decide) (by rw [afL _ D7.out,YV.out]) au ?_)
   refine (cut_c da data.length dc 200 hdn hdc _).mono ?_
   rintro ee w3 ⟨v,rfl,rfl,rfl⟩
   go_wp2_with fail
   refine (aaY hS2 (data.take 200) (afU ((Ro.os Zm.out) _ hS2)) (by rw [acJ];omega)).mono ?_
   rintro ee w4 ⟨v,rfl,hS4,ca,cn,cc,rfl⟩
   obtain ⟨d2,hd2⟩:∃ d2:QD,d2=⟨⟨d1.c.kind,d1.c.key,data.take 200,d1.c.n,d1.c.m,d1.c.l⟩,.slice ca cn cc,d1.lv⟩:=⟨_,rfl⟩
   have hp2:dM (gB d1) 33 [.slice ca cn cc]=gB d2:=by rw [afI _ D7.out (data.take 200),hd2]
   have Tt:d2.c.key.length=32:=by rw [hd2];exact D7.out
   have Tv:d2.lv = .slice qM qP qN:=by rw [hd2];exact YW.out
   have Jk:=uQ hp2;have Hd2:=uQ hd2;have AQ:=uQ Tt;have YX:=uQ Tv
   clear hp2 hd2 Tt Tv hS2
   go_wp2_with (with_reducible apply bY)
   refine ⟨eY (b:=q) (o:=33) (v:= .slice ca cn cc) hS4 ah ah Jk.out eF (by rw [Bo.out];show 33+1≤37;decide) au ah ?_⟩
   intro w5 hS5
   clear hS4
   go_wp2_with ((with_reducible refine bD ⟨?_⟩);refine dV (b:=q) (o:=36) (v:= .slice qM qP qN) hS5 ah aY (by rw [wI _ AQ.out];decide) (by rw [afM _ AQ.out,YX.out]) au ?_)
   refine (ae2 qM qP qN 60 TJ TI _).mono ?_
   rintro ee w6 ⟨v,rfl,rfl,rfl⟩
   obtain ⟨d3,hd3⟩:∃ d3:QD,d3=⟨⟨d2.c.kind,d2.c.key,d2.c.data,d2.c.n,d2.c.m,xl.take 60⟩,d2.dv,.slice qM (min qP 60) qN⟩:=⟨_,rfl⟩
   have hp3:dM (gB d2) 36 [.slice qM (min qP 60) qN]=gB d3:=by rw [afJ _ AQ.out (xl.take 60),hd3]
   have Tz:d3.c.key.length=32:=by rw [hd3];exact AQ.out
   have Zi:=uQ (show (gB d3).toList.all (·.oneCell')=true by rw [hd3,Hd2.out];exact V6 _ rfl rfl)
   have YP:=uQ (show d3.c=Rep.qH.cut ⟨kind,key,data,xn,xm,xl⟩ by rw [hd3,Hd2.out,← Hd1.out];rfl)
   have Hb3:=uQ (show bJ d3.dv d3.c.data=bJ (.slice ca cn cc) (data.take 200) by rw [hd3,Hd2.out])
   have O1:=uQ (show d3.lv = .slice qM (min qP 60) qN∧d3.c.l=xl.take 60 by rw [hd3];exact ⟨rfl,rfl⟩)
   have Zj:=uQ hp3;have D8:=uQ Tz
   clear hp3 hd3 Tz
   have hlen:(jO es).length≤2147483648:=by
    rw [Gp sZ.out]
    have:=aje List.length pU.out
    simp only [aaJ,acJ]at this
    have:=Hn.out;have:=aB.out;omega
   go_wp2_with (with_reducible apply bY)
   refine ⟨eY (b:=q) (o:=36) (v:= .slice qM (min qP 60) qN) hS5 ah ah Zj.out eF (by rw [wI _ AQ.out];exact acy 37) au ah ?_⟩
   intro w7 hS7
   clear hS5
   go_wp2_with (first
    |((with_reducible refine bD ⟨?_⟩);refine gI (b:=q) hS7 ah aY Tryz.underlying39 rfl (by rw [wI _ D8.out];exact Fq) ?_)
    |((with_reducible refine ny ⟨?_⟩);refine nH (e:=39) (sz:=37) (dS:=104) au hS7 ah (cs:=gB d3) rfl (wI _ D8.out) bF ?_;intro bN wN hN)
    |((with_reducible refine lg ⟨?_⟩);refine nG 39 37 104 au hN ah ah aY aY ((wI _ D8.out).trans aN) (acy 1) Zi.out hlen (by rw [wI _ D8.out];decide) aN rfl ?_;intro bA nA cA wA hA))
   go_roundg (ds.length - (i+1))
   case measure=>have:=Je.out;omega
   case rel=>
    refine ⟨i+1,es++[d3],rfl,aiy Je.out,aiy Hl2.out,by first|rfl|go_num,?_,?_,?_⟩
    ·rw [← hcut.out,aey,ag8,ajP,YP.out]
    ·intro d hd
     rcases ajk.1 hd with hd|hd
     ·exact Jh.out d hd
     ·rw [aiR.1 hd,O1.out.1,O1.out.2]
      exact ⟨fun w hw=>afV (Hrl.out w hw),⟨_,_,_,rfl,adr (Nat.min_le_left _ _) TJ,TI⟩⟩
    ·rw [afN,aa9,Hb3.out]
     have h10:Sat w0 wA (bJ (.slice ca cn cc) (data.take 200)::pz es::aC 39 37 (.slice (some ⟨bA,0,none⟩) nA cA) (jO es++(gB d3).toList)::F):=hA.sb
     exact (Sat.star.2 h10).aZ
  ·have hfin:es.map (·.c)=Rep.zy (ds.map (·.c)) n:=by
    rw [pU.out]
    unfold Rep.zy
    congr 1
    have:=Hi.out;have:=aB.out
    by_cases hh:i=n
    ·rw [hh]
    ·rw [aeb (by rw [aaJ];omega),aeb (by rw [aaJ];omega)]
   have bH:=uQ hfin
   by_cases hl1:i<ds.length
   ·have c1:(i:Int)<(ds.length:Int):=by omega
    have c2:¬ (i:Int)<(n:Int):=oQ
    clear hfin hlt hl1
    go_wp2
    go_ret
    exact ⟨_,rfl,es,bH.out,Jh.out,hS⟩
   ·have c1:¬ (i:Int)<(ds.length:Int):=by omega
    clear hfin hlt hl1
    go_wp2
    go_ret
    exact ⟨_,rfl,es,bH.out,Jh.out,hS⟩
end
section
variable {w0 w:World}{F:List aG}{r m K r0 E n:Nat}{seg:Int}{o oc:aj.Bs→Option aj.Bs}{d:Bool}
set_option maxRecDepth 20000 in
theorem abm (x:QD) (hkey:x.c.key.length=32) (hkind:x.c.kind=0) (hd:Ro w0 F (bg 1 x.dv (aA x.c.data))) (hlen:x.c.data.length≤300) (hn:n≤199) (hE:E≤200) (hK:K≤1048576) (hH:Ro w0 F Half) (h:fV w0 r m seg K r0 E n o oc d F w) :
  Calls Tryz.prog 11 #[ptr r,.agg (gB x)] w (aO fun v w'=>(v=errno 0∧fV w0 r m seg (K+4) r0 E (n+1) (Tab.put o x.c.key x.c.data) oc true F w')∨(v=errno 11∧fV w0 r m seg (K+4) r0 E n o oc d F w')):=by
 obtain ⟨LL,hS,hpush,hdrop⟩:=h.sat
 have hF:=hdrop _ hS
 obtain ⟨da,dn,dc,hdv,hdn,_⟩:=hd w hF
 rw [aV,aiw]at hdn
 subst hdn
 rw [hdv]at hd
 have Hd:=uQ hd;have Hlen:=uQ hlen
 clear hd hlen
 have dO:=uQ hkey;have Hp:=uQ hpush;have HH:=uQ hH;have Hn:=uQ hn;have HE:=uQ hE;have HK:=uQ hK
 clear h hpush hdrop hkey hH hn hE hK hF
 go_enter Tryz.func11,Tryz.ntmps11
 go_wp2_with (with_reducible apply eG)
 refine ⟨eH hS ah ah ?_⟩
 intro b3 w3 h3
 have h4:=Hp.out _ _ h3
 have e0:w3.cell? ⟨b3,0,none⟩=some (.int .i64 x.c.kind):=h3.cellP aT 0 (by unfold gB;rw [abL];exact Gm x)
 have fk:w3.rangeAt b3 1 (aA x.c.key):=fun j z hj=>h3.cellP aT (1+j) (by unfold gB;rw [abL];exact Gl x hj)
 have e33:w3.cell? ⟨b3,33,none⟩=some x.dv:=h3.cellP aT 33 (by unfold gB;rw [abL];exact zY x dO.out 0)
 clear hS h3
 rw [hdv]at e33
 rw [hkind]at e0
 go_wp2_with ((with_reducible refine bD ⟨?_⟩);refine gU (b:=b3) (o:=1) (aA x.c.key) ah fk Tryz.underlying31 rfl (by rw [aV,dO.out];kernel_rfl) ?_)
 refine (ahF (by have:=Hn.out;omega) HE.out HK.out dO.out x.c.data da dc (Ro.os Hd.out) Hlen.out (Ro.os HH.out) h4).mono ?_
 rintro ee w5 ⟨v,rfl,⟨rfl,h5⟩|⟨rfl,h5⟩⟩
 ·go_wp2_with fail
  go_ret
  exact ⟨_,rfl,.inl ⟨rfl,h5.drop⟩⟩
 ·go_wp2_with fail
  go_ret
  exact ⟨_,rfl,.inr ⟨rfl,h5.drop⟩⟩
set_option maxRecDepth 20000 in
theorem abn (x:QD) (hkey:x.c.key.length=32) (hkind:x.c.kind=1) (hn:n≤199) (hE:E≤200) (hK:K≤1048576) (hH:Ro w0 F Half) (h:fV w0 r m seg K r0 E n o oc d F w) :
  Calls Tryz.prog 11 #[ptr r,.agg (gB x)] w (aO fun v w'=>(v=errno 0∧fV w0 r m seg (K+4) r0 E (n+1) (Tab.del o x.c.key) oc true F w')∨((v=errno 11∨v=errno 9)∧fV w0 r m seg (K+4) r0 E n o oc d F w')):=by
 obtain ⟨LL,hS,hpush,hdrop⟩:=h.sat
 have hF:=hdrop _ hS
 have dO:=uQ hkey;have Hp:=uQ hpush;have HH:=uQ hH;have Hn:=uQ hn;have HE:=uQ hE;have HK:=uQ hK
 clear h hpush hdrop hkey hH hn hE hK hF
 go_enter Tryz.func11,Tryz.ntmps11
 go_wp2_with (with_reducible apply eG)
 refine ⟨eH hS ah ah ?_⟩
 intro b3 w3 h3
 have h4:=Hp.out _ _ h3
 have e0:w3.cell? ⟨b3,0,none⟩=some (.int .i64 x.c.kind):=h3.cellP aT 0 (by unfold gB;rw [abL];exact Gm x)
 have fk:w3.rangeAt b3 1 (aA x.c.key):=fun j z hj=>h3.cellP aT (1+j) (by unfold gB;rw [abL];exact Gl x hj)
 have e33:w3.cell? ⟨b3,33,none⟩=some x.dv:=h3.cellP aT 33 (by unfold gB;rw [abL];exact zY x dO.out 0)
 clear hS h3
 rw [hkind]at e0
 go_wp2_with ((with_reducible refine bD ⟨?_⟩);refine gU (b:=b3) (o:=1) (aA x.c.key) ah fk Tryz.underlying31 rfl (by rw [aV,dO.out];kernel_rfl) ?_)
 refine (ahd (by have:=Hn.out;omega) HE.out HK.out dO.out (Ro.os HH.out) h4).mono ?_
 rintro ee w5 ⟨v,rfl,⟨rfl,h5⟩|⟨rfl|rfl,h5⟩⟩
 ·go_wp2_with fail
  go_ret
  exact ⟨_,rfl,.inl ⟨rfl,h5.drop⟩⟩
 ·go_wp2_with fail
  go_ret
  exact ⟨_,rfl,.inr ⟨.inl rfl,h5.drop⟩⟩
 ·go_wp2_with fail
  go_ret
  exact ⟨_,rfl,.inr ⟨.inr rfl,h5.drop⟩⟩
set_option maxRecDepth 20000 in
theorem abo (x:QD) (hkey:x.c.key.length=32) (hkind:x.c.kind=2) (hn:n≤199) (hE:E≤200) (hK:K≤1048576) (hH:Ro w0 F Half) (h:fV w0 r m seg K r0 E n o oc d F w) :
  Calls Tryz.prog 11 #[ptr r,.agg (gB x)] w (aO fun v w'=>(v=errno 0∧fV w0 r m seg (K+605) r0 (E+2) (n+1) o o false F w')∨(v=errno 11∧fV w0 r m seg (K+605) r0 E n o oc d F w')):=by
 obtain ⟨LL,hS,hpush,hdrop⟩:=h.sat
 have hF:=hdrop _ hS
 have dO:=uQ hkey;have Hp:=uQ hpush;have HH:=uQ hH;have Hn:=uQ hn;have HE:=uQ hE;have HK:=uQ hK
 clear h hpush hdrop hkey hH hn hE hK hF
 go_enter Tryz.func11,Tryz.ntmps11
 go_wp2_with (with_reducible apply eG)
 refine ⟨eH hS ah ah ?_⟩
 intro b3 w3 h3
 have h4:=Hp.out _ _ h3
 have e0:w3.cell? ⟨b3,0,none⟩=some (.int .i64 x.c.kind):=h3.cellP aT 0 (by unfold gB;rw [abL];exact Gm x)
 have fk:w3.rangeAt b3 1 (aA x.c.key):=fun j z hj=>h3.cellP aT (1+j) (by unfold gB;rw [abL];exact Gl x hj)
 have e33:w3.cell? ⟨b3,33,none⟩=some x.dv:=h3.cellP aT 33 (by unfold gB;rw [abL];exact zY x dO.out 0)
 clear hS h3
 rw [hkind]at e0
 go_wp2_with fail
 refine (ahc (by have:=Hn.out;omega) HE.out HK.out (Ro.os HH.out) h4).mono ?_
 rintro ee w5 ⟨v,rfl,⟨rfl,h5⟩|⟨rfl,h5⟩⟩
 ·go_wp2_with fail
  go_ret
  exact ⟨_,rfl,.inl ⟨rfl,h5.drop⟩⟩
 ·go_wp2_with fail
  go_ret
  exact ⟨_,rfl,.inr ⟨rfl,h5.drop⟩⟩
set_option maxRecDepth 20000 in
theorem abp (x:QD) (hkey:x.c.key.length=32) (hkind:x.c.kind≠0∧x.c.kind≠1∧x.c.kind≠2) (hn:n≤199) (hE:E≤200) (hK:K≤1048576) (hH:Ro w0 F Half) (h:fV w0 r m seg K r0 E n o oc d F w) :
  Calls Tryz.prog 11 #[ptr r,.agg (gB x)] w (aO fun v w'=>v=errno 0∧fV w0 r m seg (K+200) r0 E n oc oc false F w'):=by
 obtain ⟨LL,hS,hpush,hdrop⟩:=h.sat
 have hF:=hdrop _ hS
 have dO:=uQ hkey;have Hp:=uQ hpush;have HH:=uQ hH;have Hn:=uQ hn;have HE:=uQ hE;have HK:=uQ hK
 clear h hpush hdrop hkey hH hn hE hK hF
 go_enter Tryz.func11,Tryz.ntmps11
 go_wp2_with (with_reducible apply eG)
 refine ⟨eH hS ah ah ?_⟩
 intro b3 w3 h3
 have h4:=Hp.out _ _ h3
 have e0:w3.cell? ⟨b3,0,none⟩=some (.int .i64 x.c.kind):=h3.cellP aT 0 (by unfold gB;rw [abL];exact Gm x)
 have fk:w3.rangeAt b3 1 (aA x.c.key):=fun j z hj=>h3.cellP aT (1+j) (by unfold gB;rw [abL];exact Gl x hj)
 have e33:w3.cell? ⟨b3,33,none⟩=some x.dv:=h3.cellP aT 33 (by unfold gB;rw [abL];exact zY x dO.out 0)
 clear hS h3
 obtain ⟨k0,k1,k2⟩:=hkind
 have c0:(x.c.kind==0)=false:=by rw [adW];exact k0
 have c1:(x.c.kind==1)=false:=by rw [adW];exact k1
 have c2:(x.c.kind==2)=false:=by rw [adW];exact k2
 clear k0 k1 k2
 go_wp2_with fail
 refine (XG (by have:=Hn.out;omega) HK.out h4).mono ?_
 rintro ee w5 ⟨v,rfl,rfl,h5⟩
 go_wp2_with fail
 go_ret
 exact ⟨_,rfl,rfl,h5.drop⟩
theorem abk (x:QD) (hkey:x.c.key.length=32) (hkind:0≤x.c.kind∧x.c.kind<3) (hd:Ro w0 F (bg 1 x.dv (aA x.c.data))) (hlen:x.c.data.length≤300) (hn:n≤199) (hE:E≤200) (hK:K≤1048576) (hH:Ro w0 F Half) (h:fV w0 r m seg K r0 E n o oc d F w) :
  Calls Tryz.prog 11 #[ptr r,.agg (gB x)] w (aO fun v w'=>∃ (e:Int) (o' oc':aj.Bs→Option aj.Bs) (d':Bool),v=errno e∧fV w0 r m seg (K+605) r0 (E+2) (n+1) o' oc' d' F w'):=by
 have hc:x.c.kind=0∨x.c.kind=1∨x.c.kind=2:=oQ
 rcases hc with hc|hc|hc
 ·refine (abm x hkey hc hd hlen hn hE hK hH h).mono ?_
  rintro e w' ⟨v,rfl,⟨rfl,h2⟩|⟨rfl,h2⟩⟩
  ·exact ⟨_,rfl,0,_,_,_,rfl,h2.mono oQ oQ (acy _)⟩
  ·exact ⟨_,rfl,11,_,_,_,rfl,h2.mono oQ oQ oQ⟩
 ·refine (abn x hkey hc hn hE hK hH h).mono ?_
  rintro e w' ⟨v,rfl,⟨rfl,h2⟩|⟨rfl|rfl,h2⟩⟩
  ·exact ⟨_,rfl,0,_,_,_,rfl,h2.mono oQ oQ (acy _)⟩
  ·exact ⟨_,rfl,11,_,_,_,rfl,h2.mono oQ oQ oQ⟩
  ·exact ⟨_,rfl,9,_,_,_,rfl,h2.mono oQ oQ oQ⟩
 ·refine (abo x hkey hc hn hE hK hH h).mono ?_
  rintro e w' ⟨v,rfl,⟨rfl,h2⟩|⟨rfl,h2⟩⟩
  ·exact ⟨_,rfl,0,_,_,_,rfl,h2⟩
  ·exact ⟨_,rfl,11,_,_,_,rfl,h2.mono oQ oQ oQ⟩
end
end Go.Proofs.YtiglchkhikciiaaGreatDoor
