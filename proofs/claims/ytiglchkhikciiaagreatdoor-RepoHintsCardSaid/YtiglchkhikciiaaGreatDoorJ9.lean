import Derived.Test.YtiglchkhikciiaaGreatDoorJ8
set_option linter.unusedVariables false
set_option maxHeartbeats 128000000
namespace Go.aS
open Go.aj (Bs le num iH yF)
structure Rw where
 key:Bs
 nums:List Int
def iL (ns:List Int):Bs:=ns.flatMap fun n=>le n.toNat 4
def rowB (kd:Bool) (r:Rw):Bs:=(if kd then r.key else [])++iL r.nums
def jg (kd:Bool) (l:List Rw):Bs:=l.flatMap (rowB kd)
def body (mg:Bs) (kd:Bool) (l:List Rw):Bs:=mg++le l.length 4++jg kd l
def book (X:Bs→Nat) (mg:Bs) (kd:Bool) (l:List Rw):Bs:=body mg kd l++le (X (body mg kd l)) 8
structure uY (k:Nat) (r:Rw):Prop where
 key:r.key.length=32
 len:r.nums.length=k
 num:∀ n∈r.nums,0≤n∧n≤4294967295
def ahead (kd:Bool) (a b:Rw):Prop:=if kd then a.key<b.key else a.nums.getD 0 0<b.nums.getD 0 0
instance (kd:Bool) (a b:Rw):Decidable (ahead kd a b):=by unfold ahead;infer_instance
def PI (kd:Bool) (l:List Rw):Prop:=∀ i a b,l[i]?=some a→l[i+1]?=some b→ahead kd a b
structure Ok (k:Nat) (kd:Bool) (l:List Rw):Prop where
 len:l.length≤65536
 row:∀ r∈l,uY k r
 rise:PI kd l
section
variable {X:Bs→Nat}{mg:Bs}{kd:Bool}{l:List Rw}{r:Rw}{k i:Nat}{n:Int}{ns:List Int}
theorem Vw:iL []=[]:=rfl
theorem MC (n:Int) (ns:List Int):iL (n::ns)=le n.toNat 4++iL ns:=rfl
theorem ae3 (a b:List Int):iL (a++b)=iL a++iL b:=by unfold iL;rw [ajj]
theorem Vu (ns:List Int):(iL ns).length=4 * ns.length:=by
 induction ns with
 |nil=>rfl
 |cons n ns ih=>rw [MC,aal,iH,ih,aja];omega
theorem Np:jg kd []=[]:=rfl
theorem Nk (r:Rw) (l:List Rw):jg kd (r::l)=rowB kd r++jg kd l:=rfl
theorem agh (a b:List Rw):jg kd (a++b)=jg kd a++jg kd b:=by unfold jg;rw [ajj]
def jE (kd:Bool) (k:Nat):Nat:=4 * k+if kd then 32 else 0
theorem agf (h:uY k r):(rowB kd r).length=jE kd k:=by
 unfold rowB jE
 rw [aal,Vu,h.len]
 cases kd
 ·simp
 ·rw [ac3 rfl,ac3 rfl,h.key];omega
theorem Nl:∀ (l:List Rw),(∀ r∈l,uY k r)→(jg kd l).length=l.length * jE kd k
 |[],_=>by simp [Np]
 |r::l,h=>by
  rw [Nk,aal,agf (h r (.head _)),Nl l (fun x hx=>h x (.tail _ hx)),aja,akt];omega
theorem zn (hm:mg.length=8) (h:∀ r∈l,uY k r):(body mg kd l).length=12+l.length * jE kd k:=by
 unfold body
 rw [aal,aal,hm,iH,Nl l h]
theorem EF (hm:mg.length=8) (h:∀ r∈l,uY k r):(book X mg kd l).length=20+l.length * jE kd k:=by
 unfold book
 rw [aal,zn hm h,iH];omega
theorem Gu (hk:k≤3):jE kd k≤44:=by unfold jE;split <;> omega
theorem aaA (hm:mg.length=8) (hk:k≤3) (h:Ok k kd l):(body mg kd l).length≤3000000:=by
 rw [zn hm h.row]
 have h1:=h.len
 have h2:l.length * jE kd k≤65536 * 44:=akI h1 (Gu hk)
 omega
theorem Vo (h:0≤n∧n≤4294967295):num (le n.toNat 4)=n.toNat:=by
 refine yF 4 _ ?_
 have:(256:Nat)^4=4294967296:=by decide
 rw [this];omega
theorem Oe (x:Nat) (t:Bs):(le x 4++t).take 4=le x 4:=by rw [ajb (by rw [iH];omega),aeb (by rw [iH];omega)]
theorem EO (x:Nat) (t:Bs):(le x 4++t).drop 4=t:=by
 rw [ak7,iH,aiz (by rw [iH];omega),akb,alu,ajd]
theorem QN {α:Type}{l:List α}{x:α} (h:l[i]?=some x):l.drop i=x::l.drop (i+1):=by
 obtain ⟨hi,rfl⟩:=abl.1 h
 exact ajX hi
theorem jS {α:Type}{l:List α}{x:α} (h:l[i]?=some x):l.take (i+1)=l.take i++[x]:=by
 obtain ⟨hi,rfl⟩:=abl.1 h
 exact ajQ hi
theorem agi (h:l[i]?=some r):jg kd (l.take (i+1))=jg kd (l.take i)++rowB kd r:=by
 rw [jS h,agh,Nk,Np,afo]
theorem ae4 {j:Nat} (h:ns[j]?=some n):iL (ns.take (j+1))=iL (ns.take j)++le n.toNat 4:=by
 rw [jS h,ae3,MC,Vw,afo]
theorem WO (h:l[i]?=some r):jg kd (l.drop i)=rowB kd r++jg kd (l.drop (i+1)):=by rw [QN h,Nk]
theorem Vt {j:Nat} (h:ns[j]?=some n):iL (ns.drop j)=le n.toNat 4++iL (ns.drop (j+1)):=by rw [QN h,MC]
def qR:Bs:=[72,79,65,82,68,73,68,88]
def qU:Bs:=[72,79,65,82,68,85,83,69]
end
end Go.aS
namespace Go.Proofs.YtiglchkhikciiaaGreatDoor
open Go Go.Sl Go.ay Go.MapKept Go.RowKit
section
variable {P:Program}{w0 w:World}{ops:Array Oper}{rest:List Oper}{a:Act}{Q:Exit→Act→World→Prop}{dst:Option Tmp}{t ty:TypeId}{pos:String}{after:Array Edge}{v:Value}{parts:Array (Nat×Operand)}
theorem aiE (parts':Array (Nat×Value)) (he:parts.map (fun p=>(p.1,a.eval p.2))=parts') (hr:∀ w,(Instr.build ty parts').run P w = .ok v w) (h:wpList P ops Q rest (a.put dst v) w):wpList P ops Q (⟨dst,.build ty parts,t,pos,after,none⟩::rest) a w:=
 ajx rfl fun _ hK=>by
  unfold Oper.wp execOp
  simp only [he,adO,hr,ac2,aeC]
  exact hK _ _ h
theorem Z' (h:Stop (wpList P ops Q (⟨dst,.build ty parts,t,pos,after,none⟩::rest) a w)):wpList P ops Q (⟨dst,.build ty parts,t,pos,after,none⟩::rest) a w:=h.out
end
section
variable {w0 w:World}{F:List aG}
abbrev kX (mg:ByteArray) (kd:Bool) (k:Nat):Array Value:=#[.string mg,.bool kd,.int .i64 k]
abbrev Lh:Array Value:=kX ⟨#[72,79,65,82,68,73,68,88]⟩ true 3
abbrev Oj:Array Value:=kX ⟨#[72,79,65,82,68,85,83,69]⟩ false 3
theorem Yw:jy Tryz.prog 278=some (.agg #[.string ⟨#[]⟩,.bool false,.int .i64 0]):=by kernel_rfl
theorem agN (w:World):(Instr.build 278 #[(0,.string ⟨#[72,79,65,82,68,73,68,88]⟩),(1,.bool true),(2,.int .i64 3)]).run Tryz.prog w = .ok (.agg Lh) w:=by kernel_rfl
theorem ag5 (w:World):(Instr.build 278 #[(0,.string ⟨#[72,79,65,82,68,85,83,69]⟩),(1,.bool false),(2,.int .i64 3)]).run Tryz.prog w = .ok (.agg Oj) w:=by kernel_rfl
theorem Ur (h:Sat w0 w F):Calls Tryz.prog 177 #[] w (aO fun v w'=>v = .agg Lh∧Sat w0 w' F):=by
 go_enter Tryz.func177,Tryz.ntmps177
 go_wp2_with (with_reducible apply eU)
 refine ⟨dU Yw h rfl ?_⟩
 intro b4 w4 h4
 have hb:=agN
 go_wp2_with (first
  |((with_reducible refine bY ⟨?_⟩);refine fE Lh h4 ah ah ah bZ au ah ?_;intro w9 h9))
 refine ⟨rfl,_,wJ rfl h9 ah aY Tryz.underlying278 rfl au,?_⟩
 exact ⟨_,rfl,rfl,h9.drop⟩
theorem X6 (h:Sat w0 w F):Calls Tryz.prog 182 #[] w (aO fun v w'=>v = .agg Oj∧Sat w0 w' F):=by
 go_enter Tryz.func182,Tryz.ntmps182
 go_wp2_with (with_reducible apply eU)
 refine ⟨dU Yw h rfl ?_⟩
 intro b4 w4 h4
 have hb:=ag5
 go_wp2_with (first
  |((with_reducible refine bY ⟨?_⟩);refine fE Oj h4 ah ah ah bZ au ah ?_;intro w9 h9))
 refine ⟨rfl,_,wJ rfl h9 ah aY Tryz.underlying278 rfl au,?_⟩
 exact ⟨_,rfl,rfl,h9.drop⟩
theorem Uy (mg:ByteArray) (kd:Bool) (k:Nat) (hk:k≤1000) (h:Sat w0 w F):Calls Tryz.prog 238 #[.agg (kX mg kd k)] w (aO fun v w'=>v = .int .i64 (aS.jE kd k:Nat)∧Sat w0 w' F):=by
 have e1:IntKind.i64.wrap (4 * (k:Int))=4 * (k:Int):=acI _ oQ
 have e2:IntKind.i64.wrap (4 * (k:Int)+32)=4 * (k:Int)+32:=acI _ oQ
 cases kd
 ·have e:=uQ (show ((aS.jE false k:Nat):Int)=4 * (k:Int) by unfold aS.jE;simp)
  go_enter Tryz.func238,Tryz.ntmps238
  go_wp2_with (with_reducible apply eG)
  refine ⟨eH h ah ah ?_⟩
  intro b w1 h1
  go_wp2_with ((with_reducible refine bD ⟨?_⟩);refine dV h1 ah aT bF ak au ?_)
  go_ret
  exact ⟨_,rfl,by rw [e.out];rfl,h1.drop⟩
 ·have e:=uQ (show ((aS.jE true k:Nat):Int)=4 * (k:Int)+32 by unfold aS.jE;simp)
  go_enter Tryz.func238,Tryz.ntmps238
  go_wp2_with (with_reducible apply eG)
  refine ⟨eH h ah ah ?_⟩
  intro b w1 h1
  go_wp2_with ((with_reducible refine bD ⟨?_⟩);refine dV h1 ah aT bF ak au ?_)
  go_ret
  exact ⟨_,rfl,by rw [e.out];rfl,h1.drop⟩
end
abbrev wO (x:aS.Rw) (nv:Value):Array Value:=(aA x.key++[nv]).toArray
section
variable {w0 w:World}{F:List aG}{na nb:Value}
theorem GR {x:aS.Rw}{nv:Value}{j:Nat}{v:Value} (h:(aA x.key)[j]?=some v):(wO x nv)[j]?=some v:=by
 have hj:j<(aA x.key).length:=by
  rcases akf j (aA x.key).length with k|k
  ·exact k
  ·rw [ajH k]at h;cases h
 rw [abL,adV hj];exact h
theorem yM {x:aS.Rw}{nv:Value} (hk:x.key.length=32):(wO x nv)[32]?=some nv:=by
 rw [abL,adQ (by rw [aV,hk];exact acy 32),aV,hk];rfl
set_option maxRecDepth 20000 in
theorem ah8 (a b:aj.Bs) (ha:a.length=32) (hb:b.length=32) (h:Sat w0 w F) :
  Calls Tryz.prog 132 #[.agg (aA a).toArray,.agg (aA b).toArray] w (aO fun v w'=>v = .bool (decide (a<b))∧Sat w0 w' F):=by
 have He:=uQ (show decide (Lib.compareBytes a b<0)=decide (a<b) from decide_eq_decide.2 (Tab.EK a b))
 go_enter Tryz.func132,Tryz.ntmps132
 go_wp2_with (with_reducible apply eG)
 refine ⟨eH h ak ak ?_⟩
 intro b2 w2 h2
 go_wp2_with (with_reducible apply eG)
 refine ⟨eH h2 ak ak ?_⟩
 intro b3 w3 h3
 have hS:=h3.drew
 have r1:bg 1 (.slice (some ⟨b2,0,none⟩) 32 32) (aA a) w3.drew:=⟨_,_,_,rfl,by rw [aV,ha],fun j z hj=>⟨_,rfl,by rw [tK,aen];exact hS.cellP aZ j (by rw [abL];exact hj)⟩⟩
 have r2:bg 1 (.slice (some ⟨b3,0,none⟩) 32 32) (aA b) w3.drew:=⟨_,_,_,rfl,by rw [aV,hb],fun j z hj=>⟨_,rfl,by rw [tK,aen];exact hS.cellP aT j (by rw [abL];exact hj)⟩⟩
 have hbc:=JU a b r1 r2
 generalize Lib.compareBytes a b=r at *
 clear h h2 h3 r1 r2 ha hb
 go_wp2_with fail
 have hG:True:=trivial
 refine dH [] (fun w'=>True) au ?_
 refine rp 0 (hy:=(by (refine Or.inl ⟨by rfl,?_⟩;((intro wq;go_simp);first|done|exact wQ)))) (h:=?_)
 refine rp 1 (hy:=(by (refine Or.inl ⟨by rfl,?_⟩;((intro wq;go_simp);first|done|exact wQ)))) (h:=?_)
 refine bV 2 ak au (fun K hK=>?_)
 (refine gy au ak ak ?_)
 refine hbc.mono ?_
 rintro e w' ⟨rfl,rfl⟩
 refine hK _ _ (.inr (.inr rfl)) ?_
 clear hK hbc
 refine rP 3 ?_ (y:=jm)
 refine rP 4 ?_ (y:=fJ)
 refine dD au ?_
 clear hG
 go_wp2_with fail
 go_ret
 exact ⟨_,rfl,by rw [← He.out];rfl,hS.drop.drop⟩
set_option maxRecDepth 20000 in
theorem ZM (mg:ByteArray) (k:Nat) (a b:aS.Rw) (ha:a.key.length=32) (hb:b.key.length=32) (h:Sat w0 w F) :
  Calls Tryz.prog 260 #[.agg (kX mg true k),.agg (wO a na),.agg (wO b nb)] w (aO fun v w'=>v = .bool (decide (aS.ahead true a b))∧Sat w0 w' F):=by
 have He:=uQ (show decide (aS.ahead true a b)=decide (a.key<b.key) from decide_eq_decide.2 Iff.rfl)
 have hia:(Tryz.prog.info? 31).map (·.size)=some (aA a.key).length:=by rw [aV,ha];kernel_rfl
 have hib:(Tryz.prog.info? 31).map (·.size)=some (aA b.key).length:=by rw [aV,hb];kernel_rfl
 have Hl:=uQ (fun (w':World) (R:List aG) (hw:Sat w0 w' R)=>ah8 a.key b.key ha hb hw)
 clear ha hb
 go_enter Tryz.func260,Tryz.ntmps260
 go_wp2_with (with_reducible apply eG)
 refine ⟨eH h ak ak ?_⟩
 intro b1 w1 h1
 go_wp2_with (with_reducible apply eG)
 refine ⟨eH h1 ak ak ?_⟩
 intro b2 w2 h2
 go_wp2_with (with_reducible apply eG)
 refine ⟨eH h2 ak ak ?_⟩
 intro b3 w3 h3
 clear h h1 h2
 go_wp2_with (first
  |((with_reducible refine bD ⟨?_⟩);first
   |refine dV h3 ah (aW aZ) bF ak au ?_
   |refine Au (o:=0) (aA a.key) h3 ah aZ (fun j v hj=>by rw [aen];exact GR hj) Tryz.underlying31 rfl hia ?_
   |refine Au (o:=0) (aA b.key) h3 ah aT (fun j v hj=>by rw [aen];exact GR hj) Tryz.underlying31 rfl hib ?_))
 refine (Hl.out _ _ h3).mono ?_
 rintro e w4 ⟨v,rfl,rfl,h4⟩
 clear Hl h3
 go_wp2
 go_ret
 exact ⟨_,rfl,by rw [He.out];rfl,h4.drop.drop.drop⟩
end
structure RV where
 x:aS.Rw
 nv:Value
def bW (r:RV):List Value:=aA r.x.key++[r.nv]
structure qh (w0:World) (F:List aG) (r:RV):Prop where
 key:r.x.key.length=32
 rd:Ro w0 F (bg 1 r.nv (ints r.x.nums))
 ne:0<r.x.nums.length
section
variable {w0 w:World}{F:List aG}{lv:Value}
theorem kD (r:RV) (h:r.x.key.length=32):(bW r).length=33:=by unfold bW;rw [aal,aV,h];rfl
theorem qh.sub {r:RV}{G:List aG} (h:qh w0 F r) (k:Sub G F):qh w0 G r:=⟨h.key,Ro.of_sub h.rd k,h.ne⟩
theorem Vx {nv:Value}{l:List Int} (h:bg 1 nv (ints l) w) (hl:0<l.length):∃ bk off c,nv = .slice (some ⟨bk,off,none⟩) l.length c∧w.cell? ⟨bk,off,none⟩=some (.int .i64 (l.getD 0 0)):=by
 have h0:l[0]?=some (l.getD 0 0):=by rw [adP,aak hl];rfl
 obtain ⟨bk,off,cc,hsv,hcell⟩:=iC (f:=fun i:Int=>[Value.int .i64 i]) (k:=1) (l:=l) (fun u _=>rfl) (by rw [show ints l=l.flatMap fun i=>[Value.int .i64 i] from by unfold ints;exact List.map_eq_flatMap]at h;exact h) h0 aN
 have f0:=hcell 0 _ rfl
 rw [aiw,akc]at f0
 exact ⟨bk,off,cc,hsv,f0⟩
set_option maxRecDepth 20000 in
theorem ZN (mg:ByteArray) (k:Nat) (a b:RV) (ha:qh w0 F a) (hb:qh w0 F b) (h:Sat w0 w F) :
  Calls Tryz.prog 260 #[.agg (kX mg false k),.agg (wO a.x a.nv),.agg (wO b.x b.nv)] w (aO fun v w'=>v = .bool (decide (aS.ahead false a.x b.x))∧Sat w0 w' F):=by
 obtain ⟨a,na⟩:=a
 obtain ⟨b,nb⟩:=b
 have He:=uQ (show decide (aS.ahead false a b)=decide (a.nums.getD 0 0<b.nums.getD 0 0) from decide_eq_decide.2 Iff.rfl)
 have Ha:=uQ ha;have Hb:=uQ hb
 clear ha hb
 go_enter Tryz.func260,Tryz.ntmps260
 go_wp2_with (with_reducible apply eG)
 refine ⟨eH h ak ak ?_⟩
 intro b1 w1 h1
 go_wp2_with (with_reducible apply eG)
 refine ⟨eH h1 ak ak ?_⟩
 intro b2 w2 h2
 go_wp2_with (with_reducible apply eG)
 refine ⟨eH h2 ak ak ?_⟩
 intro b3 w3 h3
 clear h h1 h2
 have hS:=h3.drew
 obtain ⟨ka,oa,ca,e1,f1⟩:=Vx (Ha.out.rd _ hS.drop.drop.drop) Ha.out.ne
 obtain ⟨kb,ob,cb,e2,f2⟩:=Vx (Hb.out.rd _ hS.drop.drop.drop) Hb.out.ne
 dsimp only at e1 e2 f1 f2
 subst e1 e2
 have hG0:=And.intro (hS.cellP aZ 32 (yM Ha.out.key)) (And.intro f1 (And.intro (hS.cellP aT 32 (yM Hb.out.key)) f2))
 have Jl:=uQ Ha.out.ne;have Jm:=uQ Hb.out.ne
 dsimp only at Jl Jm
 clear f1 f2
 generalize a.nums.getD 0 0=X at *
 generalize b.nums.getD 0 0=Y at *
 have q1:(0:Int)<(a.nums.length:Int):=by have:=Jl.out;omega
 have q2:(0:Int)<(b.nums.length:Int):=by have:=Jm.out;omega
 have q3:0<a.nums.length:=Jl.out
 have q4:0<b.nums.length:=Jm.out
 go_wp2_with ((with_reducible refine bD ⟨?_⟩);refine dV h3 ah (aW aZ) bF ak au ?_)
 clear h3
 refine dH [8,9] (fun w'=>w'.cell? ⟨b2,32,none⟩=some (.slice (some ⟨ka,oa,none⟩) a.nums.length ca)∧w'.cell? ⟨ka,oa,none⟩=some (.int .i64 X)∧w'.cell? ⟨b3,32,none⟩=some (.slice (some ⟨kb,ob,none⟩) b.nums.length cb)∧w'.cell? ⟨kb,ob,none⟩=some (.int .i64 Y)) au ?_
 have hG:=hG0
 clear hG0
 refine rP 0 ?_ (y:=cO)
 refine rt 1 (h:=?_)
 refine rP 2 ?_ (y:=gX)
 refine rt 3 (h:=?_)
 refine rP 4 ?_ (y:=cO)
 refine rt 5 (h:=?_)
 refine rP 6 ?_ (y:=gX)
 refine rt 7 (h:=?_)
 clear hG
 refine rP 8 ?_ (y:=jm)
 refine rP 9 ?_ (y:=fJ)
 refine dD au ?_
 go_wp2_with fail
 go_ret
 exact ⟨_,rfl,by rw [He.out];rfl,hS.drop.drop.drop⟩
theorem ZO (mg:ByteArray) (kd:Bool) (k:Nat) (a b:RV) (ha:qh w0 F a) (hb:qh w0 F b) (h:Sat w0 w F) :
  Calls Tryz.prog 260 #[.agg (kX mg kd k),.agg (wO a.x a.nv),.agg (wO b.x b.nv)] w (aO fun v w'=>v = .bool (decide (aS.ahead kd a.x b.x))∧Sat w0 w' F):=by
 cases kd
 ·exact ZN mg k a b ha hb h
 ·exact ZM mg k a.x b.x ha.key hb.key h
set_option maxRecDepth 20000 in
theorem Nh (mg:ByteArray) (kd:Bool) (k:Nat) (rs:List RV) (hn:rs.length≤1073741824) (hr:Ro w0 F (bg 33 lv (rs.flatMap bW))) (he:∀ r∈rs,qh w0 F r) (h:Sat w0 w F) :
  Calls Tryz.prog 224 #[.agg (kX mg kd k),lv] w (aO fun v w'=>∃ t:Bool,v = .bool t∧(t=true↔aS.PI kd (rs.map (·.x)))∧Sat w0 w' F):=by
 obtain ⟨la,lc,rfl⟩:=iD (fun r hr=>kD r (he r hr).key) (hr w h) aN
 have Hr:=uQ hr;have He:=uQ he;have Hn:=uQ hn
 clear hr he hn
 go_enter Tryz.func224,Tryz.ntmps224
 go_wp2_with (with_reducible apply eG)
 refine ⟨eH h ak ak ?_⟩
 intro b2 w2 h2
 clear h
 go_wp2_with fail
 go_loopg [5] rs.length (fun g iq wr=>∃ m:Nat,g=rs.length - m∧iq = .int .i64 ((m:Int)+1)∧(∀ i a b,i<m→(rs.map (·.x))[i]?=some a→(rs.map (·.x))[i+1]?=some b→aS.ahead kd a b)∧m≤rs.length∧Sat w0 wr (pt b2 (.cells (kX mg kd k) 278 (0,0))::F))
 case atStart=>exact ⟨0,rfl,rfl,fun i a b hi=>absurd hi (Nat.not_lt_zero _),afm _,h2⟩
 case round=>
  obtain ⟨m,rfl,rfl,hal,hm,hS⟩:=hrel
  clear h2
  have AO:=uQ hal
  clear hal
  by_cases hlt:m+1<rs.length
  ·have c1:(m:Int)+1<(rs.length:Int):=by omega
   have c0:(m:Int)<(rs.length:Int):=oQ
   have c2:(0:Int)≤(m:Int)+1:=oQ
   have hw0:IntKind.i64.wrap (m:Int)=(m:Int):=acI _ (by have:=Hn.out;omega)
   have hw1:IntKind.i64.wrap ((m:Int)+1 - 1)=(m:Int):=by rw [Int.add_sub_cancel];exact hw0
   have hw2:IntKind.i64.wrap ((m:Int)+1+1)=(m:Int)+1+1:=acI _ (by have:=Hn.out;omega)
   obtain ⟨r1,hx1⟩:∃ q,rs[m]?=some q:=⟨_,aak oQ⟩
   obtain ⟨r2,hx2⟩:∃ q,rs[m+1]?=some q:=⟨_,aak hlt⟩
   have qg:=uQ hx1;have PE:=uQ hx2
   have H1:=uQ (He.out r1 (abA hx1));have H2:=uQ (He.out r2 (abA hx2))
   have hS1:=hS.drew
   obtain ⟨bk,off,c',hsv,hc1⟩:=iC (f:=bW) (k:=33) (fun r hr=>kD r (He.out r hr).key) (Hr.out _ hS1.drop) hx1 aN
   cases hsv
   obtain ⟨ED,off',c2',e2,hc2⟩:=iC (f:=bW) (k:=33) (fun r hr=>kD r (He.out r hr).key) (Hr.out _ hS1.drop) hx2 aN
   cases e2
   have hG0:World.rangeAt _ b2 0 [.string mg,.bool kd,.int .i64 k]∧World.rangeAt _ bk (off+m * 33) (bW r1)∧World.rangeAt _ bk (off+(m+1) * 33) (bW r2):=⟨oN (l:=[.string mg,.bool kd,.int .i64 k]) hS1,hc1,hc2⟩
   have hah:=ZO mg kd k r1 r2 (H1.out.sub jH) (H2.out.sub jH) hS1
   have bT:=uQ hlt
   clear hx1 hx2 hc1 hc2 hlt hm hS
   by_cases hab:aS.ahead kd r1.x r2.x
   ·rw [aiu hab]at hah
    have II:=uQ hab
    clear hab
    go_wp2_with fail
    refine dH [10,11] (fun w'=>w'.rangeAt b2 0 [.string mg,.bool kd,.int .i64 k]∧w'.rangeAt bk (off+m * 33) (bW r1)∧w'.rangeAt bk (off+(m+1) * 33) (bW r2)) au ?_
    have hG:=hG0
    clear hG0
    refine eP 0 ak au bK (ig (b:=b2) (o:=0) [.string mg,.bool kd,.int .i64 k] ah Tryz.underlying278 rfl au (fun w hw=>hw.1)) aQ gQ ?_
    refine rP 1 ?_ (y:=aX)
    refine rP 2 ?_ (y:=aX)
    refine rP 3 ?_ (y:=jm)
    refine rP 4 ?_ (y:=gX)
    refine eP 5 ak au bK (ig (b:=bk) (o:=off+m * 33) (bW r1) ah Tryz.underlying284 rfl (by rw [kD _ H1.out.key];kernel_rfl) (fun w hw=>hw.2.1)) aQ gQ ?_
    refine rP 6 ?_ (y:=aX)
    refine rP 7 ?_ (y:=aX)
    refine rP 8 ?_ (y:=gX)
    refine eP 9 ak au bK (ig (b:=bk) (o:=off+(m+1) * 33) (bW r2) ah Tryz.underlying284 rfl (by rw [kD _ H2.out.key];kernel_rfl) (fun w hw=>hw.2.2)) aQ gQ ?_
    clear hG
    refine bV 10 ak au (fun K hK=>?_)
    (refine vI au ak ak ak ?_)
    refine hah.mono ?_
    rintro ee w9 ⟨v,rfl,rfl,h9⟩
    refine hK _ _ (.inl rfl) ?_
    clear hK hah hS1
    refine rP 11 ?_ (y:=(Yt ak dh))
    refine dD au ?_
    go_wp2_with fail
    go_roundg (rs.length - (m+1))
    case measure=>have:=bT.out;omega
    case rel=>
     refine ⟨m+1,rfl,by first|rfl|go_num,fun i a b hi ha hb=>?_,Nat.le_of_lt bT.out,h9⟩
     rcases Nat.lt_succ_iff_lt_or_eq.1 hi with hi|rfl
     ·exact AO.out i a b hi ha hb
     ·rw [aix,qg.out]at ha
      rw [aix,PE.out]at hb
      cases ha;cases hb
      exact II.out
   ·rw [aex hab]at hah
    have II:=uQ hab
    clear hab
    go_wp2_with fail
    refine dH [10,11] (fun w'=>w'.rangeAt b2 0 [.string mg,.bool kd,.int .i64 k]∧w'.rangeAt bk (off+m * 33) (bW r1)∧w'.rangeAt bk (off+(m+1) * 33) (bW r2)) au ?_
    have hG:=hG0
    clear hG0
    refine eP 0 ak au bK (ig (b:=b2) (o:=0) [.string mg,.bool kd,.int .i64 k] ah Tryz.underlying278 rfl au (fun w hw=>hw.1)) aQ gQ ?_
    refine rP 1 ?_ (y:=aX)
    refine rP 2 ?_ (y:=aX)
    refine rP 3 ?_ (y:=jm)
    refine rP 4 ?_ (y:=gX)
    refine eP 5 ak au bK (ig (b:=bk) (o:=off+m * 33) (bW r1) ah Tryz.underlying284 rfl (by rw [kD _ H1.out.key];kernel_rfl) (fun w hw=>hw.2.1)) aQ gQ ?_
    refine rP 6 ?_ (y:=aX)
    refine rP 7 ?_ (y:=aX)
    refine rP 8 ?_ (y:=gX)
    refine eP 9 ak au bK (ig (b:=bk) (o:=off+(m+1) * 33) (bW r2) ah Tryz.underlying284 rfl (by rw [kD _ H2.out.key];kernel_rfl) (fun w hw=>hw.2.2)) aQ gQ ?_
    clear hG
    refine bV 10 ak au (fun K hK=>?_)
    (refine vI au ak ak ak ?_)
    refine hah.mono ?_
    rintro ee w9 ⟨v,rfl,rfl,h9⟩
    refine hK _ _ (.inl rfl) ?_
    clear hK hah hS1
    refine rP 11 ?_ (y:=(Yt ak dh))
    refine dD au ?_
    go_wp2_with fail
    go_ret
    refine ⟨_,rfl,false,rfl,⟨fun k=>(by cases k),fun k=>absurd (k m r1.x r2.x ?_ ?_) II.out⟩,h9.drop⟩
    ·rw [aix,qg.out];rfl
    ·rw [aix,PE.out];rfl
  ·have c1:¬ (m:Int)+1<(rs.length:Int):=by omega
   have bT:=uQ hlt
   clear hlt hm
   go_wp2
   go_ret
   refine ⟨_,rfl,.inr ⟨rfl,fun i a b ha hb=>?_,hS.drop⟩⟩
   have hi:=(abl.1 hb).1
   rw [aaJ]at hi
   exact AO.out i a b (by have:=bT.out;omega) ha hb
end
section
variable {P:Program}{w0 w:World}{L F:List aG}{ops:Array Oper}{rest:List Oper}{a:Act}{Q:Exit→Act→World→Prop}{dst:Option Tmp}{t ty:TypeId}{pos:String}{after:Array Edge}{x y s:Operand}{v vx vy:Value}{l m:Bs}
theorem Ip (hx:a.eval x=vx) (hy:a.eval y=vy) (hr:∀ w,(Instr.sliceAt ty vx (some vy) none none).run P w = .ok v w):Yields P ops ⟨dst,.slice ty x (some y) none none,t,pos,after,none⟩ v a:=
 .inl ⟨kS _ rfl,fun w=>by simp only [execOp,hx,hy,aj7,akK,adO,hr,ac2,aeC]⟩
theorem aiG (l c:Nat) (h1:l≤c) (h2:c≤1099511627776) (hs:Sat w0 w L) (hx:a.eval x = .int .i64 l) (hy:a.eval y = .int .i64 c)
  (hK:∀ b w',Sat w0 w' (bJ (.slice (some ⟨b,0,none⟩) l c) (List.replicate l 0)::L)→wpList Tryz.prog ops Q rest (a.put dst (.slice (some ⟨b,0,none⟩) l c)) w') :
  wpList Tryz.prog ops Q (⟨dst,.makeSlice 36 x y,t,pos,after,none⟩::rest) a w:=by
 have hS:=hs.alloc (.cells (madeCells #[.int .u8 0] c) 5)
 refine ajx rfl fun _ hK'=>?_
 unfold Oper.wp execOp
 simp only [hx,hy,UZ l c h1 h2,adO,aeC,ac2]
 exact hK' _ _ (hK _ _ (UW h1 h2 hS))
theorem aad (h:Stop (wpList P ops Q (⟨dst,.makeSlice ty x y,t,pos,after,none⟩::rest) a w)):wpList P ops Q (⟨dst,.makeSlice ty x y,t,pos,after,none⟩::rest) a w:=h.out
theorem Yb (hs:Sat w0 w (bJ v l::F)) (hv:a.eval s=v) (hy:a.eval y=vy) (hx:bg 1 vy (aA m) w) (hlen:l.length+m.length≤1099511627776)
  (hK:∀ v' w',Sat w0 w' (bJ v' (l++m)::F)→wpList Tryz.prog ops Q rest (a.put dst v') w') :
  wpList Tryz.prog ops Q (⟨dst,.call { callee:= .builtin .append,args:=#[s,y],argTypes:=#[36,36] },36,pos,after,none⟩::rest) a w:=by
 obtain ⟨i,hi,hz0,hz1,hz2⟩:=rX
 have h63:(aA l).length+(aA m).length≤maxLen:=by rw [aV,aV];unfold maxLen;omega
 have hby:((aA l).length+(aA m).length) * i.bytes≤140737488355328:=by rw [aV,aV,hz2];omega
 refine wW (w0:=w0) rfl s y 36 rfl _ i _ Tryz.underlying36 hi hz0 hz1 ah oQ hv hy (tX _) hs hx h63 hby ?_
 intro v' w' hS hn
 rw [← xO]at hS
 exact hK v' w' hS
end
section
variable {w0 w:World}{F:List aG}{v bv rv:Value}{p n:Nat}{l:Bs}
theorem ahI (n:Nat):∃ x:Nat,IntKind.u64.wrap ((2870177450012600261:Int)+(n:Int))=(x:Int)∧x<18446744073709551616∧(2870177450012600261+n)%18446744073709551616=x:=by
 obtain ⟨x,a,b,c⟩:=XI 2870177450012600261 n
 unfold Xx.W at c
 exact ⟨x,(aje (fun z=>IntKind.u64.wrap (z+(n:Int))) (show (2870177450012600261:Int)=((2870177450012600261:Nat):Int) from rfl)).trans a,b,c⟩
set_option maxRecDepth 20000 in
theorem adn (hl0:l≠[]) (hl:l.length≤1073741824) (hr:RS w0 F bv l) (h:Sat w0 w (iW p Xx.Ln.zero (.slice none 0 0) 0::F)) :
  Calls Tryz.prog 262 #[ptr p,bv] w (aO fun _ w'=>∃ rv bA cA,Sat w0 w' (iW p (Xx.jC l.length Xx.Ln.zero l).1 rv l.length::bJ (.slice (some ⟨bA,0,none⟩) l.length cA) l::F)∧RS w0 (bJ (.slice (some ⟨bA,0,none⟩) l.length cA) l::F) rv (Xx.jC l.length Xx.Ln.zero l).2):=by
 obtain ⟨ba,bc,rfl,hb1,hb2⟩:=(hr.more (G:=iW p Xx.Ln.zero (.slice none 0 0) 0::F) jH).len h
 have Hr:=uQ hr;have Hl:=uQ hl;have Jd:=uQ hl0
 have c0:w.cell? ⟨p,0,none⟩=some (.bool true):=h.cellAt 0 _ rfl
 have n1:IntKind.u64.wrap (l.length:Int)=(l.length:Int):=by rw [akd];omega
 have n2:(l.length:Int)%18446744073709551616=(l.length:Int):=oQ
 have n3:IntKind.i64.wrap (l.length:Int)=(l.length:Int):=acI _ oQ
 clear hr hl hb1 hb2 hl0
 go_enter Tryz.func262,Tryz.ntmps262
 go_wp2_with (first
  |((with_reducible refine bD ⟨?_⟩);refine dV h ah aT bF ak au ?_)
  |(with_reducible apply bY))
 refine ⟨eY (v:= .int .u64 l.length) h ah ah ah bZ (by exact acy 8) au ah ?_⟩
 intro w1 h1
 have h2:Sat w0 w1 (iW p Xx.Ln.zero (.slice none 0 0) l.length::F):=h1
 clear h h1 c0
 go_wp2_with (first
  |((with_reducible refine bD ⟨?_⟩);refine dV h2 ah aT bF ak au ?_)
  |(with_reducible apply aad))
 refine ⟨aiG 0 l.length (afm _) (by have:=Hl.out;omega) h2 ah ah ?_⟩
 intro bM w3 h3
 go_wp2_with (first
  |((with_reducible refine bD ⟨?_⟩);refine dV h3 ah aZ bF ak au ?_)
  |(with_reducible apply lg))
 refine ⟨Yb (m:=[]) h3 ah ah (yI 1 0 _) (by simp) ?_⟩
 intro v4 w4 h4
 go_wp2_with (with_reducible apply lg)
 refine ⟨Yb (m:=l) h4 ah ah (Hr.out.rd _ h4.drop.drop) (by simp only [List.replicate,afo,ajn];have:=Hl.out;omega) ?_⟩
 intro v5 w5 h5
 have h6:Sat w0 w5 (bJ v5 l::iW p Xx.Ln.zero (.slice none 0 0) l.length::F):=h5
 clear h2 h3 h4 h5
 obtain ⟨bA,cA,rfl⟩:∃ bA cA,v5 = .slice (some ⟨bA,0,none⟩) l.length cA:=by
  rcases Sat.jQ h6 with ⟨_,he,_⟩|⟨b,n,cap,cs,he,k1,_⟩
  ·exfalso
   apply Jd.out
   have:=aje List.length he
   rw [aV]at this
   exact aj2 (by simpa using this)
  ·rw [aV,aiw]at k1
   subst k1
   exact ⟨b,cap,he⟩
 have h7:Sat w0 w5 (iW p Xx.Ln.zero (.slice none 0 0) l.length::bJ (.slice (some ⟨bA,0,none⟩) l.length cA) l::F):=h6.sb
 have sU:=uQ (show RS w0 (bJ (.slice (some ⟨bA,0,none⟩) l.length cA) l::F) (.slice (some ⟨bA,0,none⟩) l.length cA) l from RS.F5 h7.drop)
 clear h6
 go_wp2_with fail
 go_loopg [4] l.length (fun g aq wr=>∃ (ln:Xx.Ln) (m:Bs),g=m.length∧m.length≤l.length∧ln.lt∧RS w0 (bJ (.slice (some ⟨bA,0,none⟩) l.length cA) l::F) aq m∧Xx.jC l.length Xx.Ln.zero l=Xx.jC m.length ln m ∧
  Sat w0 wr (iW p ln (.slice none 0 0) l.length::bJ (.slice (some ⟨bA,0,none⟩) l.length cA) l::F))
 case atStart=>exact ⟨Xx.Ln.zero,l,rfl,acy _,Xx.Yy,sU.out,rfl,h7⟩
 case round=>
  obtain ⟨⟨la,lb,lc,ld⟩,m,rfl,hml,hlt,hRS,heq,hS⟩:=hrel
  clear h7 sU
  by_cases h32:32≤m.length
  ·obtain ⟨a,c,a4,c4,rfl,k1,k2,hrun4,WX⟩:=vF hRS hS.drop h32
   obtain ⟨_,_,a0,c0,he,_,_,Ny,Ns⟩:=vF hRS hS.drop (k:=0) oQ
   cases he
   obtain ⟨_,_,a1,c1,he,_,_,Nz,Nu⟩:=vF hRS hS.drop (k:=8) oQ
   cases he
   obtain ⟨_,_,a2,c2,he,_,_,NC,Nv⟩:=vF hRS hS.drop (k:=16) oQ
   cases he
   obtain ⟨_,_,a3,c3,he,_,_,ND,Nw⟩:=vF hRS hS.drop (k:=24) oQ
   cases he
   have hst:Xx.jC m.length ⟨la,lb,lc,ld⟩ m=Xx.jC (m.drop 32).length (Xx.strip ⟨la,lb,lc,ld⟩ m) (m.drop 32):=by rw [Xx.acz h32 (acy _),adU]
   have hsl:=Xx.XK ⟨la,lb,lc,ld⟩ m
   have hsp:Xx.strip ⟨la,lb,lc,ld⟩ m=⟨Xx.lane la (aj.num ((m.drop 0).take 8)),Xx.lane lb (aj.num ((m.drop 8).take 8)),Xx.lane lc (aj.num ((m.drop 16).take 8)),Xx.lane ld (aj.num ((m.drop 24).take 8))⟩:=rfl
   obtain ⟨N0,O7⟩:∃ N,Hid (aj.num ((m.drop 0).take 8)=N):=⟨_,uQ rfl⟩
   obtain ⟨N1,Ei⟩:∃ N,Hid (aj.num ((m.drop 8).take 8)=N):=⟨_,uQ rfl⟩
   obtain ⟨N2,O8⟩:∃ N,Hid (aj.num ((m.drop 16).take 8)=N):=⟨_,uQ rfl⟩
   obtain ⟨N3,O9⟩:∃ N,Hid (aj.num ((m.drop 24).take 8)=N):=⟨_,uQ rfl⟩
   rw [O7.out,Ei.out,O8.out,O9.out]at hsp
   obtain ⟨n0,OX⟩:∃ N,Hid (Xx.lane la N0=N):=⟨_,uQ rfl⟩
   obtain ⟨n1',OY⟩:∃ N,Hid (Xx.lane lb N1=N):=⟨_,uQ rfl⟩
   obtain ⟨vV,OZ⟩:∃ N,Hid (Xx.lane lc N2=N):=⟨_,uQ rfl⟩
   obtain ⟨Dp,O4⟩:∃ N,Hid (Xx.lane ld N3=N):=⟨_,uQ rfl⟩
   rw [OX.out,OY.out,OZ.out,O4.out]at hsp
   rw [hsp]at hst hsl
   have mZ:=uQ (heq.trans hst);have rE:=uQ hsl;have Zo:=uQ WX;have D6:=uQ h32
   have Hll:=uQ (show (m.drop 32).length<m.length∧(m.drop 32).length≤l.length by rw [adU];omega)
   replace Ns:=uQ Ns
   replace Nu:=uQ Nu
   replace Nv:=uQ Nv
   replace Nw:=uQ Nw
   replace Ny:=uQ Ny
   replace Nz:=uQ Nz
   replace NC:=uQ NC
   replace ND:=uQ ND
   have Zp:=uQ hrun4
   have cc:(32:Int)≤(m.length:Int):=oQ
   clear hst hsl hsp heq hRS WX hlt hml k1 k2 h32 hrun4
   go_wp2_with fail
   go_loopg [45] 4 (fun g iq wr=>∃ (i:Nat),g=4 - i∧i≤4∧iq = .int .i64 i∧Sat w0 wr ((match i with|0=>iW p ⟨la,lb,lc,ld⟩ (.slice none 0 0) l.length|1=>iW p ⟨n0,lb,lc,ld⟩ (.slice none 0 0) l.length|2=>iW p ⟨n0,n1',lc,ld⟩ (.slice none 0 0) l.length|3=>iW p ⟨n0,n1',vV,ld⟩ (.slice none 0 0) l.length|_=>iW p ⟨n0,n1',vV,Dp⟩ (.slice none 0 0) l.length)::bJ (.slice (some ⟨bA,0,none⟩) l.length cA) l::F))
   case atStart=>exact ⟨0,rfl,by omega,rfl,hS⟩
   case round=>
    obtain ⟨i,rfl,hi,rfl,rO⟩:=hrel
    clear hS
    obtain rfl|rfl|rfl|rfl|rfl:i=0∨i=1∨i=2∨i=3∨i=4:=by omega
    ·have hw1:(8:Int) * 0=0:=by decide
     have hw2:IntKind.i64.wrap (0:Int)=(0:Int):=by decide
     have HG:=uQ (fun (w:World) (R:List aG) (hS:Sat w0 w (iW p ⟨la,lb,lc,ld⟩ (.slice none 0 0) l.length::R))=>show w.cell? ⟨p,2,none⟩=some (.int .u64 la) from hS.cellAt 2 _ rfl)
     go_wp2_with fail
     have hS1:=rO.drew
     clear rO
     refine dH [13,16,17] (fun w'=>w'.cell? ⟨p,2,none⟩=some (.int .u64 la)) au ?_
     have hG:=HG.out _ _ hS1
     refine rP 0 ?_ (y:=aX)
     refine rP 1 ?_ (y:=aX)
     refine rP 2 ?_ (y:=aX)
     refine rP 3 ?_ (y:=aX)
     refine rP 4 ?_ (y:=dZ)
     refine rP 5 ?_ (y:=cO)
     refine rP 6 ?_ (y:=gX)
     refine rt 7 (h:=?_)
     refine rP 8 ?_ (y:=aX)
     refine rP 9 ?_ (y:=aX)
     refine rP 10 ?_ (y:=jm)
     refine rP 11 ?_ (y:=(Ip ak (by go_simp;first|done|rfl) Ny.out))
     refine rP 14 ?_ (y:=dZ)
     refine rP 15 ?_ (y:=cO)
     clear hG
     refine bV 12 ak au (fun K hK=>?_)
     (refine pF au ak ?_)
     refine (DW (m.drop 0) (by rw [adU];have:=D6.out;omega) (Ns.out.more jH) hS1).mono ?_
     rintro ee w12 ⟨v,rfl,rfl,rfl⟩
     refine hK _ _ (.inr (.inr rfl)) ?_
     clear hK
     rw [O7.out]
     refine bV 13 ak au (fun K hK=>?_)
     (refine gy au ak ak ?_)
     refine (uq la N0 hS1).mono ?_
     rintro ee jF ⟨v,rfl,rfl,h13⟩
     refine hK _ _ (.inl rfl) ?_
     clear hK hS1
     rw [OX.out]
     refine rP 16 ?_ (y:=gX)
     refine bV 17 ak au (fun K hK=>?_)
     refine kP (v:= .int .u64 n0) h13 ak ak ah bZ (by exact (by decide:3≤8)) au ah ?_
     intro uM h17
     refine hK _ _ (.inl rfl) ?_
     clear hK h13
     refine dD au ?_
     try simp only [iO]
     try go_frame
     have h18:Sat w0 uM (iW p ⟨n0,lb,lc,ld⟩ (.slice none 0 0) l.length::bJ (.slice (some ⟨bA,0,none⟩) l.length cA) l::F):=h17
     clear h17
     go_wp2_with fail
     go_roundg 3
     case measure=>omega
     case rel=>exact ⟨1,rfl,by omega,rfl,h18⟩
    ·have hw1:(8:Int) * 1=8:=by decide
     have hw2:IntKind.i64.wrap (8:Int)=(8:Int):=by decide
     have HG:=uQ (fun (w:World) (R:List aG) (hS:Sat w0 w (iW p ⟨n0,lb,lc,ld⟩ (.slice none 0 0) l.length::R))=>show w.cell? ⟨p,3,none⟩=some (.int .u64 lb) from hS.cellAt 3 _ rfl)
     go_wp2_with fail
     have hS1:=rO.drew
     clear rO
     refine dH [13,16,17] (fun w'=>w'.cell? ⟨p,3,none⟩=some (.int .u64 lb)) au ?_
     have hG:=HG.out _ _ hS1
     refine rP 0 ?_ (y:=aX)
     refine rP 1 ?_ (y:=aX)
     refine rP 2 ?_ (y:=aX)
     refine rP 3 ?_ (y:=aX)
     refine rP 4 ?_ (y:=dZ)
     refine rP 5 ?_ (y:=cO)
     refine rP 6 ?_ (y:=gX)
     refine rt 7 (h:=?_)
     refine rP 8 ?_ (y:=aX)
     refine rP 9 ?_ (y:=aX)
     refine rP 10 ?_ (y:=jm)
     refine rP 11 ?_ (y:=(Ip ak (by go_simp;first|done|rfl) Nz.out))
     refine rP 14 ?_ (y:=dZ)
     refine rP 15 ?_ (y:=cO)
     clear hG
     refine bV 12 ak au (fun K hK=>?_)
     (refine pF au ak ?_)
     refine (DW (m.drop 8) (by rw [adU];have:=D6.out;omega) (Nu.out.more jH) hS1).mono ?_
     rintro ee w12 ⟨v,rfl,rfl,rfl⟩
     refine hK _ _ (.inr (.inr rfl)) ?_
     clear hK
     rw [Ei.out]
     refine bV 13 ak au (fun K hK=>?_)
     (refine gy au ak ak ?_)
     refine (uq lb N1 hS1).mono ?_
     rintro ee jF ⟨v,rfl,rfl,h13⟩
     refine hK _ _ (.inl rfl) ?_
     clear hK hS1
     rw [OY.out]
     refine rP 16 ?_ (y:=gX)
     refine bV 17 ak au (fun K hK=>?_)
     refine kP (v:= .int .u64 n1') h13 ak ak ah bZ (by exact (by decide:4≤8)) au ah ?_
     intro uM h17
     refine hK _ _ (.inl rfl) ?_
     clear hK h13
     refine dD au ?_
     try simp only [iO]
     try go_frame
     have h18:Sat w0 uM (iW p ⟨n0,n1',lc,ld⟩ (.slice none 0 0) l.length::bJ (.slice (some ⟨bA,0,none⟩) l.length cA) l::F):=h17
     clear h17
     go_wp2_with fail
     go_roundg 2
     case measure=>omega
     case rel=>exact ⟨2,rfl,by omega,rfl,h18⟩
    ·have hw1:(8:Int) * 2=16:=by decide
     have hw2:IntKind.i64.wrap (16:Int)=(16:Int):=by decide
     have HG:=uQ (fun (w:World) (R:List aG) (hS:Sat w0 w (iW p ⟨n0,n1',lc,ld⟩ (.slice none 0 0) l.length::R))=>show w.cell? ⟨p,4,none⟩=some (.int .u64 lc) from hS.cellAt 4 _ rfl)
     go_wp2_with fail
     have hS1:=rO.drew
     clear rO
     refine dH [13,16,17] (fun w'=>w'.cell? ⟨p,4,none⟩=some (.int .u64 lc)) au ?_
     have hG:=HG.out _ _ hS1
     refine rP 0 ?_ (y:=aX)
     refine rP 1 ?_ (y:=aX)
     refine rP 2 ?_ (y:=aX)
     refine rP 3 ?_ (y:=aX)
     refine rP 4 ?_ (y:=dZ)
     refine rP 5 ?_ (y:=cO)
     refine rP 6 ?_ (y:=gX)
     refine rt 7 (h:=?_)
     refine rP 8 ?_ (y:=aX)
     refine rP 9 ?_ (y:=aX)
     refine rP 10 ?_ (y:=jm)
     refine rP 11 ?_ (y:=(Ip ak (by go_simp;first|done|rfl) NC.out))
     refine rP 14 ?_ (y:=dZ)
     refine rP 15 ?_ (y:=cO)
     clear hG
     refine bV 12 ak au (fun K hK=>?_)
     (refine pF au ak ?_)
     refine (DW (m.drop 16) (by rw [adU];have:=D6.out;omega) (Nv.out.more jH) hS1).mono ?_
     rintro ee w12 ⟨v,rfl,rfl,rfl⟩
     refine hK _ _ (.inr (.inr rfl)) ?_
     clear hK
     rw [O8.out]
     refine bV 13 ak au (fun K hK=>?_)
     (refine gy au ak ak ?_)
     refine (uq lc N2 hS1).mono ?_
     rintro ee jF ⟨v,rfl,rfl,h13⟩
     refine hK _ _ (.inl rfl) ?_
     clear hK hS1
     rw [OZ.out]
     refine rP 16 ?_ (y:=gX)
     refine bV 17 ak au (fun K hK=>?_)
     refine kP (v:= .int .u64 vV) h13 ak ak ah bZ (by exact (by decide:5≤8)) au ah ?_
     intro uM h17
     refine hK _ _ (.inl rfl) ?_
     clear hK h13
     refine dD au ?_
     try simp only [iO]
     try go_frame
     have h18:Sat w0 uM (iW p ⟨n0,n1',vV,ld⟩ (.slice none 0 0) l.length::bJ (.slice (some ⟨bA,0,none⟩) l.length cA) l::F):=h17
     clear h17
     go_wp2_with fail
     go_roundg 1
     case measure=>omega
     case rel=>exact ⟨3,rfl,by omega,rfl,h18⟩
    ·have hw1:(8:Int) * 3=24:=by decide
     have hw2:IntKind.i64.wrap (24:Int)=(24:Int):=by decide
     have HG:=uQ (fun (w:World) (R:List aG) (hS:Sat w0 w (iW p ⟨n0,n1',vV,ld⟩ (.slice none 0 0) l.length::R))=>show w.cell? ⟨p,5,none⟩=some (.int .u64 ld) from hS.cellAt 5 _ rfl)
     go_wp2_with fail
     have hS1:=rO.drew
     clear rO
     refine dH [13,16,17] (fun w'=>w'.cell? ⟨p,5,none⟩=some (.int .u64 ld)) au ?_
     have hG:=HG.out _ _ hS1
     refine rP 0 ?_ (y:=aX)
     refine rP 1 ?_ (y:=aX)
     refine rP 2 ?_ (y:=aX)
     refine rP 3 ?_ (y:=aX)
     refine rP 4 ?_ (y:=dZ)
     refine rP 5 ?_ (y:=cO)
     refine rP 6 ?_ (y:=gX)
     refine rt 7 (h:=?_)
     refine rP 8 ?_ (y:=aX)
     refine rP 9 ?_ (y:=aX)
     refine rP 10 ?_ (y:=jm)
     refine rP 11 ?_ (y:=(Ip ak (by go_simp;first|done|rfl) ND.out))
     refine rP 14 ?_ (y:=dZ)
     refine rP 15 ?_ (y:=cO)
     clear hG
     refine bV 12 ak au (fun K hK=>?_)
     (refine pF au ak ?_)
     refine (DW (m.drop 24) (by rw [adU];have:=D6.out;omega) (Nw.out.more jH) hS1).mono ?_
     rintro ee w12 ⟨v,rfl,rfl,rfl⟩
     refine hK _ _ (.inr (.inr rfl)) ?_
     clear hK
     rw [O9.out]
     refine bV 13 ak au (fun K hK=>?_)
     (refine gy au ak ak ?_)
     refine (uq ld N3 hS1).mono ?_
     rintro ee jF ⟨v,rfl,rfl,h13⟩
     refine hK _ _ (.inl rfl) ?_
     clear hK hS1
     rw [O4.out]
     refine rP 16 ?_ (y:=gX)
     refine bV 17 ak au (fun K hK=>?_)
     refine kP (v:= .int .u64 Dp) h13 ak ak ah bZ (by exact (by decide:6≤8)) au ah ?_
     intro uM h17
     refine hK _ _ (.inl rfl) ?_
     clear hK h13
     refine dD au ?_
     try simp only [iO]
     try go_frame
     have h18:Sat w0 uM (iW p ⟨n0,n1',vV,Dp⟩ (.slice none 0 0) l.length::bJ (.slice (some ⟨bA,0,none⟩) l.length cA) l::F):=h17
     clear h17
     go_wp2_with fail
     go_roundg 0
     case measure=>omega
     case rel=>exact ⟨4,rfl,by omega,rfl,h18⟩
    ·have hS4:Sat w0 wr (iW p ⟨n0,n1',vV,Dp⟩ (.slice none 0 0) l.length::bJ (.slice (some ⟨bA,0,none⟩) l.length cA) l::F):=rO
     clear rO
     go_wp2_with ((with_reducible refine Ez ⟨?_⟩);refine Il ah ah Zp.out ?_)
     go_roundg (m.drop 32).length
     case measure=>exact Hll.out.1
     case rel=>exact ⟨⟨n0,n1',vV,Dp⟩,m.drop 32,rfl,Hll.out.2,rE.out,by have k:=Zo.out;rw [adU]at k;exact k,mZ.out,hS4⟩
  ·have hst:=uQ (show Xx.jC l.length Xx.Ln.zero l=(⟨la,lb,lc,ld⟩,m) from heq.trans (Xx.acA h32))
   have jJ:=uQ hRS
   obtain ⟨a,c,rfl,k1,k2⟩:=hRS.len hS.drop
   have cc:¬ (32:Int)≤(m.length:Int):=oQ
   clear heq hlt hml h32 hRS k1 k2
   go_wp2_with ((with_reducible refine bY ⟨?_⟩);refine eY (v:= .slice a m.length c) hS ah ah ah bZ (by exact aj8 7) au ah ?_;intro w9 h9)
   go_end0
   exact ⟨_,rfl,.slice a m.length c,bA,cA,by rw [hst.out];exact h9,by rw [hst.out];exact jJ.out⟩
set_option maxRecDepth 20000 in
theorem adl {ln:Xx.Ln}{m:Bs} (hln:ln.lt) (hn:n≤1073741824) (hm:m.length≤1073741824) (hr:RS w0 F rv m) (h:Sat w0 w (iW p ln rv n::F)):Calls Tryz.prog 263 #[ptr p] w (aO fun v w'=>v = .int .u64 (Xx.f3 (Xx.f2 (Xx.f1 (Xx.tail (((if 32≤n then Xx.joined ln else 2870177450012600261)+n)%18446744073709551616) m))):Nat)∧Sat w0 w' (iW p ln rv n::F)):=by
 obtain ⟨ra,rc,rfl,k1,k2⟩:=(hr.more (G:=iW p ln rv n::F) jH).len h
 have Hr:=uQ (fun (w:World) (x:Nat) (hx:x<18446744073709551616) (hS:Sat w0 w (iW p ln (.slice ra m.length rc) n::F))=>aiV x hx m hm (hr.more jH) hS)
 have c0:w.cell? ⟨p,0,none⟩=some (.bool true):=h.cellAt 0 _ rfl
 have Hj:=uQ (fun (w:World) (hS:Sat w0 w (iW p ln (.slice ra m.length rc) n::F))=>adT hln hS)
 have SQ:=uQ (fun (w:World) (hS:Sat w0 w (iW p ln (.slice ra m.length rc) n::F))=>show w.cell? ⟨p,7,none⟩=some (.int .u64 n)∧w.cell? ⟨p,6,none⟩=some (.slice ra m.length rc) from ⟨hS.cellAt 7 _ rfl,hS.cellAt 6 _ rfl⟩)
 have Hn:=uQ hn
 clear hr hm k1 k2 hn
 by_cases h32:32≤n
 ·rw [ac3 h32]
  generalize Xx.joined ln=J at *
  obtain ⟨x,e1,hx,e2⟩:=XI J n
  change (J+n)%18446744073709551616=x at e2
  rw [e2]
  have htl:Xx.tail x m<18446744073709551616:=Xx.XP x m (show x<Xx.W from hx)
  have pY:=uQ (fun (w:World) (hS:Sat w0 w (iW p ln (.slice ra m.length rc) n::F))=>Hr.out w x hx hS)
  generalize Xx.tail x m=y at *
  obtain ⟨t1,t2,t3,t4,t5,f1,f2,f3,f4,f5,f6⟩:=Rq htl
  have IZ:=uQ f6;have lZ:=uQ e1;have Hf:=uQ (And.intro f1 (And.intro f2 (And.intro f3 (And.intro f4 f5))))
  have ci:(32:Int)≤(n:Int):=oQ
  clear hx htl f6 e1 e2 f1 f2 f3 f4 f5 Hr h32 hln
  go_enter Tryz.func263,Tryz.ntmps263
  go_wp2_with ((with_reducible refine bD ⟨?_⟩);refine dV h ah aT bF ak au ?_)
  refine (Hj.out _ h).mono ?_
  rintro ee w1 ⟨v,rfl,rfl,h1⟩
  clear h c0 Hj
  go_wp2_with fail
  have hS:=h1.drew
  clear h1
  refine dH [10,11] (fun w'=>w'.cell? ⟨p,7,none⟩=some (.int .u64 n)∧w'.cell? ⟨p,6,none⟩=some (.slice ra m.length rc)) au ?_
  have hG:=SQ.out _ hS
  refine rP 0 ?_ (y:=aX)
  refine rP 1 ?_ (y:=aX)
  refine rP 2 ?_ (y:=dZ)
  refine rP 3 ?_ (y:=cO)
  refine rt 4 (h:=?_)
  refine rp 5 (hy:=(wY ak ak (by intro wq;have e1:=lZ.out;(go_simp);first|done|exact wQ))) (h:=?_)
  refine rP 6 ?_ (y:=aX)
  refine rP 7 ?_ (y:=dZ)
  refine rP 8 ?_ (y:=cO)
  refine rt 9 (h:=?_)
  clear hG
  refine bV 10 ak au (fun K hK=>?_)
  (refine gy au ak ak ?_)
  refine (pY.out _ hS).mono ?_
  rintro ee w2 ⟨v,rfl,rfl,h2⟩
  refine hK _ _ (.inl rfl) ?_
  clear hK hS pY
  refine rP 11 ?_ (y:=fJ)
  refine dD au ?_
  try simp only [iO]
  try go_frame
  obtain ⟨f1,f2,f3,f4,f5⟩:=Hf.out
  go_wp2
  go_ret
  exact ⟨_,rfl,by rw [IZ.out];rfl,h2⟩
 ·rw [abw h32]
  obtain ⟨x,e1,hx,e2⟩:=ahI n
  rw [e2]
  have htl:Xx.tail x m<18446744073709551616:=Xx.XP x m (show x<Xx.W from hx)
  have pY:=uQ (fun (w:World) (hS:Sat w0 w (iW p ln (.slice ra m.length rc) n::F))=>Hr.out w x hx hS)
  generalize Xx.tail x m=y at *
  obtain ⟨t1,t2,t3,t4,t5,f1,f2,f3,f4,f5,f6⟩:=Rq htl
  have IZ:=uQ f6;have lZ:=uQ e1;have Hf:=uQ (And.intro f1 (And.intro f2 (And.intro f3 (And.intro f4 f5))))
  have ci:¬ (32:Int)≤(n:Int):=oQ
  clear hx htl f6 e1 e2 f1 f2 f3 f4 f5 Hr h32 hln Hj
  go_enter Tryz.func263,Tryz.ntmps263
  go_wp2_with ((with_reducible refine bD ⟨?_⟩);refine dV h ah aT bF ak au ?_)
  have h1:=h
  clear h c0
  go_wp2_with fail
  have hS:=h1.drew
  clear h1
  refine dH [10,11] (fun w'=>w'.cell? ⟨p,7,none⟩=some (.int .u64 n)∧w'.cell? ⟨p,6,none⟩=some (.slice ra m.length rc)) au ?_
  have hG:=SQ.out _ hS
  refine rP 0 ?_ (y:=aX)
  refine rP 1 ?_ (y:=aX)
  refine rP 2 ?_ (y:=dZ)
  refine rP 3 ?_ (y:=cO)
  refine rt 4 (h:=?_)
  refine rp 5 (hy:=(wY ak ak (by intro wq;have e1:=lZ.out;(go_simp);first|done|exact wQ))) (h:=?_)
  refine rP 6 ?_ (y:=aX)
  refine rP 7 ?_ (y:=dZ)
  refine rP 8 ?_ (y:=cO)
  refine rt 9 (h:=?_)
  clear hG
  refine bV 10 ak au (fun K hK=>?_)
  (refine gy au ak ak ?_)
  refine (pY.out _ hS).mono ?_
  rintro ee w2 ⟨v,rfl,rfl,h2⟩
  refine hK _ _ (.inl rfl) ?_
  clear hK hS pY
  refine rP 11 ?_ (y:=fJ)
  refine dD au ?_
  try simp only [iO]
  try go_frame
  obtain ⟨f1,f2,f3,f4,f5⟩:=Hf.out
  go_wp2
  go_ret
  exact ⟨_,rfl,by rw [IZ.out];rfl,h2⟩
theorem OE (hl0:l≠[]) (hl:l.length≤1073741824) (hr:RS w0 F bv l) (h:Sat w0 w F):Calls Tryz.prog 225 #[bv,.int .u64 0] w (aO fun v w'=>v = .int .u64 (Xx.sum l:Nat)∧Sat w0 w' F):=by
 obtain ⟨ba,bc,rfl,_,_⟩:=hr.len h
 have Hr:=uQ hr;have Hl:=uQ hl;have Jd:=uQ hl0
 have Hz:=uQ (show Xx.sum l=Xx.f3 (Xx.f2 (Xx.f1 (Xx.tail (((if 32≤l.length then Xx.joined (Xx.jC l.length Xx.Ln.zero l).1 else 2870177450012600261)+l.length)%18446744073709551616) (Xx.jC l.length Xx.Ln.zero l).2))) from rfl)
 clear hr hl hl0
 go_enter Tryz.func225,Tryz.ntmps225
 go_wp2_with fail
 refine (aeS h).mono ?_
 rintro ee w1 ⟨v,rfl,p,rfl,h1⟩
 go_wp2_with fail
 refine (adn Jd.out Hl.out Hr.out h1).mono ?_
 rintro ee w2 ⟨v,rfl,rv,bA,cA,h2,hrs⟩
 have hgl:=Xx.SC l.length Xx.Ln.zero l Xx.Yy
 have hlen:(Xx.jC l.length Xx.Ln.zero l).2.length≤1073741824:=adr (Xx.SB l.length Xx.Ln.zero l) Hl.out
 have hs:=adl hgl Hl.out hlen hrs h2
 rw [← Hz.out]at hs
 clear hgl hlen hrs h h1 h2 Hz
 go_wp2_with fail
 refine hs.mono ?_
 rintro ee w3 ⟨v,rfl,rfl,h3⟩
 clear hs
 go_wp2
 go_ret
 exact ⟨_,rfl,rfl,h3.drop.drop⟩
end
section
variable {P:Program}{w0 w:World}{L F:List aG}{ops:Array Oper}{rest:List Oper}{a:Act}{Q:Exit→Act→World→Prop}{K:Act→World→Prop}{E:Prop}{dst:Option Tmp}{t ty:TypeId}{pos:String}{after:Array Edge}{x y s:Operand}{v vy:Value}{l m:Bs}
theorem Yl (hs:Sat w0 w (iM v l::F)) (hv:a.eval s=v) (hy:a.eval y=vy) (hx:bg 1 vy (aA m) w) (hm:m≠[]) (hlen:l.length+m.length≤1099511627776) (hK:∀ v' w',Sat w0 w' (iM v' (l++m)::F)→K (a.put dst v') w') :
  Oper.wp Tryz.prog ⟨dst,.call { callee:= .builtin .append,args:=#[s,y],argTypes:=#[36,36] },36,pos,after,none⟩ a w K Q:=by
 obtain ⟨i,hi,hz0,hz1,hz2⟩:=rX
 have h63:(aA l).length+(aA m).length≤maxLen:=by rw [aV,aV];unfold maxLen;omega
 have hby:((aA l).length+(aA m).length) * i.bytes≤140737488355328:=by rw [aV,aV,hz2];omega
 obtain ⟨v',w',hr,hS⟩:=agA (P:=Tryz.prog) 36 36 5 i _ Tryz.underlying36 hi hz0 hz1 ah oQ (tX _) (fun e=>hm (by cases m with|nil=>rfl|cons z r=>cases e)) hs hx h63 hby
 rw [← xO]at hS
 unfold Oper.wp execOp
 simp only [resolve,invoke,builtin,adO,aeC,ac2,ajR,ag8,ajP,hv,hy,hr]
 exact hK _ _ hS
theorem QT (hs:Sat w0 w (iM v l::F)) (hv:a.eval s=v) (hy:a.eval y=vy) (hx:bg 1 vy (aA m) w) (hm:m≠[]) (hlen:l.length+m.length≤1099511627776) (hK:∀ v' w',Sat w0 w' (iM v' (l++m)::F)→K (a.put dst v') w') :
  if Region.wanted ⟨dst,.call { callee:= .builtin .append,args:=#[s,y],argTypes:=#[36,36] },36,pos,after,none⟩ (yielded ops a.tmps)=true then
   Oper.wp Tryz.prog ⟨dst,.call { callee:= .builtin .append,args:=#[s,y],argTypes:=#[36,36] },36,pos,after,none⟩ a w K Q else E:=xU rfl (Yl hs hv hy hx hm hlen hK)
theorem Ot (hs:Sat w0 w (iM v l::F)) (hv:a.eval s=v) (hy:a.eval y=vy) (hx:bg 1 vy (aA m) w) (hm:m≠[]) (hlen:l.length+m.length≤1099511627776) (hK:∀ v' w',Sat w0 w' (iM v' (l++m)::F)→wpList Tryz.prog ops Q rest (a.put dst v') w') :
  wpList Tryz.prog ops Q (⟨dst,.call { callee:= .builtin .append,args:=#[s,y],argTypes:=#[36,36] },36,pos,after,none⟩::rest) a w:=
 ajx rfl fun _ hK'=>Yl hs hv hy hx hm hlen fun v' w' h=>hK' _ _ (hK v' w' h)
theorem ZK (h:Sat w0 w (iM v l::F)) (e:l=m):Sat w0 w (iM v m::F):=e ▸ h
theorem ZL (h:Sat w0 w (iM v l::F)):Sat w0 w (iM v (l++[])::F):=by rw [afo];exact h
theorem aaf (h:Stop (wpList P ops Q (⟨dst,.slice ty x none none none,t,pos,after,none⟩::rest) a w)):wpList P ops Q (⟨dst,.slice ty x none none none,t,pos,after,none⟩::rest) a w:=h.out
theorem aiI (hx:a.eval x=v) (hr:∀ w,(Instr.sliceAt ty v none none none).run P w = .ok vy w) (h:wpList P ops Q rest (a.put dst vy) w):wpList P ops Q (⟨dst,.slice ty x none none none,t,pos,after,none⟩::rest) a w:=
 ajx rfl fun _ hK=>by
  unfold Oper.wp execOp
  simp only [hx,akK,adO,hr,ac2,aeC]
  exact hK _ _ h
theorem P6 (h:Stop (wpList P ops Q (⟨dst,.call { callee:= .builtin .append,args:=#[s,y],argTypes:=#[36,36] },t,pos,after,none⟩::rest) a w)):wpList P ops Q (⟨dst,.call { callee:= .builtin .append,args:=#[s,y],argTypes:=#[36,36] },t,pos,after,none⟩::rest) a w:=h.out
set_option maxRecDepth 20000 in
theorem QV (sb:ByteArray) (hl:sb.data.toList=l) (hle:l.length≤1073741824) (hs:Sat w0 w F) (hx:a.eval x = .string sb) (hK:∀ v' w',Sat w0 w' (iM v' l::F)→K (a.put dst v') w') :
  if Region.wanted ⟨dst,.convert 9 36 x,t,pos,after,none⟩ (yielded ops a.tmps)=true then Oper.wp Tryz.prog ⟨dst,.convert 9 36 x,t,pos,after,none⟩ a w K Q else E:=by
 refine xU rfl ?_
 have hr:=Lib.run_convert_string_bytes (P:=Tryz.prog) w 9 36 5 sb Tryz.underlying9 Tryz.underlying36 Tryz.underlying5
 unfold Oper.wp execOp
 simp only [hx,adO,hr,ac2,aeC]
 exact hK _ _ (Z8 hs 5 sb l hl hle)
theorem RS.MG (h:Sat w0 w (iM v l::F)):RS w0 (iM v l::F) v l:=by
 refine ⟨fun w hw=>JJ hw,?_⟩
 rcases JI h with h|⟨b,n,cap,cs,m,rfl,hl,hn,hc,hcm,htk,hmk,hp⟩
 ·obtain ⟨a,n,c,e,h1,h2,h3⟩:=zo h
  exact ⟨a,n,c,e,h1,h2⟩
 ·exact ⟨_,n,cap,rfl,hn,hcm⟩
end
section
variable {w0 w:World}{F:List aG}{lv:Value}
theorem jR (r:RV) (h:r.x.key.length=32):(bW r).toArray.size=33:=by rw [aaI];exact kD r h
theorem rvG (r:RV) (h:r.x.key.length=32):(bW r).toArray.getD 32 undef=r.nv:=by
 rw [akn,show (bW r).toArray[32]?=some r.nv from yM (x:=r.x) (nv:=r.nv) h];rfl
theorem ag9 {w:World}{r:RV} (h:bg 1 r.nv (ints r.x.nums) w):(bW r).toArray.toList.all (·.oneCell')=true:=by
 obtain ⟨a,n,c,e,_⟩:=h
 unfold bW
 rw [e]
 rw [adM,ajZ,qJ];rfl
def sO:RV:=⟨⟨aj.zero32,[]⟩,.slice none 0 0⟩
theorem wZ:jy Tryz.prog 284=some (.agg (bW sO).toArray):=by kernel_rfl
theorem Fv {w:World}{sv:Value}{l:List Int}{i:Nat}{s:Int} (h:bg 1 sv (ints l) w) (hs:l[i]?=some s):∃ bk off c,sv = .slice (some ⟨bk,off,none⟩) l.length c∧w.cell? ⟨bk,off+i,none⟩=some (.int .i64 s):=by
 obtain ⟨bk,off,cc,hsv,hcell⟩:=iC (f:=fun i:Int=>[Value.int .i64 i]) (k:=1) (l:=l) (fun u _=>rfl) (by rw [show ints l=l.flatMap fun i=>[Value.int .i64 i] from by unfold ints;exact List.map_eq_flatMap]at h;exact h) hs aN
 have f0:=hcell 0 _ rfl
 rw [aiw,akc]at f0
 exact ⟨bk,off,cc,hsv,f0⟩
theorem adK {w:World}{sv:Value}{l:List Int} (h:bg 1 sv (ints l) w):∃ a c,sv = .slice a l.length c:=
 iD (f:=fun i:Int=>[Value.int .i64 i]) (k:=1) (l:=l) (fun u _=>rfl) (by rw [show ints l=l.flatMap fun i=>[Value.int .i64 i] from by unfold ints;exact List.map_eq_flatMap]at h;exact h) aN
set_option maxRecDepth 20000 in
theorem Qm (dX:ByteArray) (mg:Bs) (hmb:dX.data.toList=mg) (oJ:mg.length=8) (kd:Bool) (k:Nat) (hk:k≤3) (rs:List RV) (hok:aS.Ok k kd (rs.map (·.x))) (hr:Ro w0 F (bg 33 lv (rs.flatMap bW))) (he:∀ r∈rs,qh w0 F r) (h:Sat w0 w F) :
  Calls Tryz.prog 178 #[.agg (kX dX kd k),lv] w (aO fun v w'=>∃ bv,v = .tuple #[bv,errno 0]∧Sat w0 w' (iM bv (aS.book Xx.sum mg kd (rs.map (·.x)))::F)):=by
 obtain ⟨la,lc,rfl⟩:=iD (fun r hr=>kD r (he r hr).key) (hr w h) aN
 have hn:rs.length≤65536:=by have:=hok.len;rwa [aaJ]at this
 have Hr:=uQ hr;have He:=uQ he;have Hn:=uQ hn;have bU:=uQ hok;have y7:=uQ hmb;have nI:=uQ oJ
 have c1:¬ (65536:Int)<(rs.length:Int):=oQ
 have c2:IntKind.u64.wrap (rs.length:Int)=(rs.length:Int):=by rw [akd];omega
 clear hr he hn hok hmb oJ
 go_enter Tryz.func178,Tryz.ntmps178
 go_wp2_with (with_reducible apply eG)
 refine ⟨eH h ak ak ?_⟩
 intro b2 w2 hS0
 replace hS0:Sat w0 w2 (pt b2 (.cells (kX dX kd k) 278 (0,0))::F):=hS0
 clear h
 go_wp2_with fail
 have hS1:=hS0.drew
 clear hS0
 have hG0:=hS1.cellAt 0 (.string dX) rfl
 refine dH [2,7,8] (fun w'=>w'.cell? ⟨b2,0,none⟩=some (.string dX)) au ?_
 have hG:=hG0
 refine rP 0 ?_ (y:=cO)
 refine rt 1 (h:=?_)
 clear hG
 refine rP 3 ?_ (y:=aX)
 refine rP 4 ?_ (y:=(nZ ak dh))
 refine rP 5 ?_ (y:=(OH ak dh))
 refine yL 2 6 ak ak au (fun K hK=>?_) (fun K hK=>?_)
 focus
  refine QV dX y7.out (by rw [nI.out];decide) hS1 ak ?_
  intro v16 w3 h3
  refine hK _ _ (.inl rfl) ?_
  clear hK hS1 hG0
  refine bV 6 ak au (fun K hK=>?_)
  (refine gy au ak ak ?_)
  refine (zW rs.length (by have:=Hn.out;omega) h3).mono ?_
  rintro ee w4 ⟨v,rfl,h4,_⟩
  refine hK _ _ (.inr (.inl ((h4.drop.drop).cellAt 0 (.string dX) rfl))) ?_
  clear hK h3
  refine bV 7 ak au (fun K hK=>?_)
  refine QT (h4.sb:Sat w0 _ (iM v16 mg::bJ v (aj.le rs.length 4)::pt b2 (.cells (kX dX kd k) 278 (0,0))::F)) ak ak (Sat.rd h4) (fun e=>by cases e) (by rw [nI.out,aj.iH];decide) ?_
  intro v6 w5 h5
  refine hK _ _ (.inl rfl) ?_
  clear hK h4
  refine rP 8 ?_ (y:=fJ)
  refine dD au ?_
  try simp only [iO]
  try go_frame
  have hB:Sat w0 w5 (iM v6 (mg++aj.le rs.length 4)::pt b2 (.cells (kX dX kd k) 278 (0,0))::F):=h5.sb
  clear h5
 rotate_left
 focus
  (refine gy au ak ak ?_)
  refine (zW rs.length (by have:=Hn.out;omega) hS1).mono ?_
  rintro ee w4 ⟨v,rfl,h4,_⟩
  refine hK _ _ (.inr (.inl ((h4.drop).cellAt 0 (.string dX) rfl))) ?_
  clear hK hS1 hG0
  refine bV 2 ak au (fun K hK=>?_)
  refine QV dX y7.out (by rw [nI.out];decide) h4 ak ?_
  intro v16 w3 h3
  refine hK _ _ (.inl rfl) ?_
  clear hK h4
  refine bV 7 ak au (fun K hK=>?_)
  refine QT (h3.sb:Sat w0 _ (iM v16 mg::bJ v (aj.le rs.length 4)::pt b2 (.cells (kX dX kd k) 278 (0,0))::F)) ak ak (Sat.rd h3.drop) (fun e=>by cases e) (by rw [nI.out,aj.iH];decide) ?_
  intro v6 w5 h5
  refine hK _ _ (.inl rfl) ?_
  clear hK h3
  refine rP 8 ?_ (y:=fJ)
  refine dD au ?_
  try simp only [iO]
  try go_frame
  have hB:Sat w0 w5 (iM v6 (mg++aj.le rs.length 4)::pt b2 (.cells (kX dX kd k) 278 (0,0))::F):=h5.sb
  clear h5
 all_goals
  as_aux_lemma=>
   have hX0:=uQ hB
   go_wp2_with fail
   go_loopg [6,24] rs.length (fun g bq iq wr=>∃ (i:Nat) (bv:Value),g=rs.length - i∧i≤rs.length∧bv=bq∧iq = .int .i64 i∧Sat w0 wr (iM bv (mg++aj.le rs.length 4++aS.jg kd ((rs.map (·.x)).take i))::pt b2 (.cells (kX dX kd k) 278 (0,0))::F))
   case atStart=>exact ⟨0,_,rfl,afm _,rfl,rfl,by rw [ajD,aS.Np,afo];exact hB⟩
   case round=>
    obtain ⟨i,bv,rfl,hi,rfl,rfl,hS⟩:=hrel
    clear hB hX0
    by_cases hlt:i<rs.length
    ·as_aux_lemma=>
     have c3:(i:Int)<(rs.length:Int):=oQ
     have hwi:IntKind.i64.wrap ((i:Int)+1)=(i:Int)+1:=acI _ (by have:=Hn.out;omega)
     obtain ⟨r,hx⟩:∃ q,rs[i]?=some q:=⟨_,aak hlt⟩
     have H1:=uQ (He.out r (abA hx))
     have lH:=uQ (bU.out.row r.x (akS (abA hx)))
     have htk:=aS.agi (kd:=kd) (show (rs.map (·.x))[i]?=some r.x by rw [aix,hx];rfl)
     have Tc:(mg++aj.le rs.length 4++aS.jg kd ((rs.map (·.x)).take i)).length≤3000000:=by
      rw [aal,aal,nI.out,aj.iH,aS.Nl _ (fun q hq=>bU.out.row q (ajm hq)),acJ,aaJ]
      have h1:=Hn.out
      have h2:min i rs.length * aS.jE kd k≤65536 * 44:=akI oQ (aS.Gu hk)
      omega
     obtain ⟨bk,off,c',hsv,hcell⟩:=iC (f:=bW) (k:=33) (fun r hr=>kD r (He.out r hr).key) (Hr.out _ hS.drop.drop) hx aN
     cases hsv
     have Uh:mg++aj.le rs.length 4++aS.jg kd ((rs.map (·.x)).take (i+1))=(mg++aj.le rs.length 4++aS.jg kd ((rs.map (·.x)).take i))++(if kd then r.x.key else [])++aS.iL r.x.nums:=by
      rw [htk];unfold aS.rowB;simp only [adR]
     generalize mg++aj.le rs.length 4++aS.jg kd ((rs.map (·.x)).take i)=X at *
     have En:=uQ Uh;have HX:=uQ Tc;have bT:=uQ hlt
     clear hx htk Uh Tc hlt hi
     go_wp2_with (first
      |((with_reducible refine bD ⟨?_⟩);refine gU (b:=bk) (o:=off+i * 33) (bW r) ah hcell Tryz.underlying284 rfl (by rw [kD _ H1.out.key];kernel_rfl) ?_)
      |(with_reducible apply eU))
     refine ⟨dU wZ hS rfl ?_⟩
     intro b8 w8 h8
     clear hS hcell
     go_wp2_with (with_reducible apply bY)
     refine ⟨fE (bW r).toArray h8 ah ah (by rw [jR _ H1.out.key];rfl) bZ (by rw [jR _ H1.out.key];kernel_rfl) (ag9 (H1.out.rd _ h8.drop.drop.drop)) ?_⟩
     intro w9 h9
     clear h8
     have hgd:(bW r).toArray.getD 32 undef=r.nv:=rvG _ H1.out.key
     obtain ⟨kb,hkb⟩:∃ kb,Hid (kd=kb):=⟨_,uQ rfl⟩
     cases kd
     focus
      have hQ:=ZL (h9.pick aZ)
      have fB:=uQ (show mg++aj.le rs.length 4++aS.jg false ((rs.map (·.x)).take (i+1))=X++[]++aS.iL r.x.nums from En.out)
      have HY:=uQ (show (X++([]:Bs)).length≤3000100 by rw [afo];have:=HX.out;omega)
      generalize X++([]:Bs)=Y at *
      clear h9 En HX
     rotate_left
     focus
      have hrd:bg 1 (.slice (some ⟨b8,0,none⟩) 32 32) (aA r.x.key) w9:=⟨_,_,_,rfl,by rw [aV,H1.out.key],fun j z hj=>⟨_,rfl,by rw [tK,aen];exact h9.cellP aT j (GR hj)⟩⟩
      have fB:=uQ (show mg++aj.le rs.length 4++aS.jg true ((rs.map (·.x)).take (i+1))=X++r.x.key++aS.iL r.x.nums from En.out)
      have HY:=uQ (show (X++r.x.key).length≤3000100 by rw [aal,H1.out.key];have:=HX.out;omega)
      have hsl:∀ w,(Instr.sliceAt 31 (.pointer (some ⟨b8,0,none⟩)) none none none).run Tryz.prog w = .ok (.slice (some ⟨b8,0,none⟩) 32 32) w:=fun w=>by kernel_rfl
      go_wp2_with (first
       |((with_reducible refine bD ⟨?_⟩);refine dV h9 ah (aW aZ) bF ak au ?_)
       |(with_reducible apply aaf))
      refine ⟨aiI ah hsl ?_⟩
      refine Ot (m:=r.x.key) (h9.pick aZ) ah ah hrd (fun e=>by have:=H1.out.key;rw [e]at this;cases this) (by rw [H1.out.key];have:=HX.out;omega) ?_
      intro v33 w10 hQ
      generalize X++r.x.key=Y at *
      clear h9 En HX hrd
     all_goals
      obtain ⟨na,nc,rU⟩:=adK (H1.out.rd _ (hQ.drop.drop.drop))
      rw [rU]at hgd
      have Zh:=uQ rU
      go_wp2_with ((with_reducible refine bD ⟨?_⟩);first|refine dV (o:=32) hQ ah aZ (by rw [jR _ H1.out.key];decide) hgd au ?_|refine dV hQ ah (aW aZ) bF ak au ?_)
      clear hgd
      rw [hkb.out]at hQ
      go_loopg [6,37] r.x.nums.length (fun g bq jq wr=>∃ (j:Nat) (cv:Value),g=r.x.nums.length - j∧j≤r.x.nums.length∧cv=bq∧jq = .int .i64 j∧Sat w0 wr (iM cv (Y++aS.iL (r.x.nums.take j))::pt b8 (.cells (bW r).toArray 284 (0,0))::pt b2 (.cells (kX dX kb k) 278 (0,0))::F))
      case atStart=>exact ⟨0,_,rfl,afm _,rfl,rfl,by rw [ajD,aS.Vw,afo];exact hQ⟩
      case round=>
       obtain ⟨j,cv,rfl,hj,rfl,rfl,hSj⟩:=hrel
       clear hQ
       by_cases hjl:j<r.x.nums.length
       ·obtain ⟨n,hn⟩:∃ n,r.x.nums[j]?=some n:=⟨_,aak hjl⟩
        have hnb:=lH.out.num n (abA hn)
        obtain ⟨bk2,of2,cc2,e2,hcj⟩:=Fv (H1.out.rd _ (hSj.drop.drop.drop)) hn
        rw [Zh.out]at e2
        cases e2
        have Zc:=uQ (aS.ae4 hn)
        obtain ⟨x,rfl⟩:∃ x:Nat,n=(x:Int):=⟨n.toNat,by omega⟩
        have d1:decide ((x:Int)<0)=false:=by rw [ajJ];omega
        have d2:decide ((4294967295:Int)<(x:Int))=false:=by rw [ajJ];omega
        have d3:¬ (x:Int)<0:=oQ
        have d4:¬ (4294967295:Int)<(x:Int):=oQ
        have d5:IntKind.u64.wrap (x:Int)=(x:Int):=by rw [akd];omega
        have c4:(j:Int)<(r.x.nums.length:Int):=oQ
        have Lc:IntKind.i64.wrap ((j:Int)+1)=(j:Int)+1:=acI _ (by have:=lH.out.len;omega)
        have Pj:=uQ (fun (w':World) (R:List aG) (hw:Sat w0 w' R)=>zW x oQ hw)
        have hyl:(Y++aS.iL (r.x.nums.take j)).length≤4000000:=by rw [aal,aS.Vu,acJ];have:=lH.out.len;have:=HY.out;omega
        have ZE:=uQ hyl;have pV:=uQ hjl
        clear hn hnb hjl hj hyl
        go_wp2_with fail
        refine (Pj.out _ _ hSj).mono ?_
        rintro ee w5 ⟨v,rfl,h5,_⟩
        clear Pj hcj hSj
        go_wp2_with (with_reducible apply P6)
        refine ⟨Ot (m:=aj.le x 4) (h5.pick aZ) ah ah (Sat.rd h5) (fun e=>by cases e) (by rw [aj.iH];have:=ZE.out;omega) ?_⟩
        intro v6 w6 h6
        go_wp2_with fail
        go_roundg (r.x.nums.length - (j+1))
        case measure=>have:=pV.out;omega
        case rel=>exact ⟨j+1,_,rfl,aiy pV.out,rfl,by first|rfl|go_num,by rw [Zc.out,← adR];exact h6.sb⟩
       ·have c4:¬ (j:Int)<(r.x.nums.length:Int):=by omega
        obtain rfl:j=r.x.nums.length:=by omega
        rw [aiv]at hSj
        clear hj hjl
        go_wp2_with fail
        go_roundg (rs.length - (i+1))
        case measure=>have:=bT.out;omega
        case rel=>exact ⟨i+1,_,rfl,aiy bT.out,rfl,by first|rfl|go_num,by rw [fB.out];rw [← hkb.out]at hSj;exact hSj.sb⟩
    ·as_aux_lemma=>
     have c3:¬ (i:Int)<(rs.length:Int):=oQ
     obtain rfl:i=rs.length:=by omega
     have eb:mg++aj.le rs.length 4++aS.jg kd ((rs.map (·.x)).take rs.length)=aS.body mg kd (rs.map (·.x)):=by
      unfold aS.body
      rw [aeb (by rw [aaJ];exact acy _),aaJ]
     have hSb:=ZK hS eb
     have oh:=uQ (aS.aaA (mg:=mg) nI.out hk bU.out)
     have tC:=uQ (show aS.body mg kd (rs.map (·.x))≠[] from fun e=>by
      have:=aS.zn (mg:=mg) (kd:=kd) nI.out bU.out.row
      rw [e]at this
      simp only [ajn]at this
      omega)
     have oK:=Nh dX kd k rs (by have:=Hn.out;omega) (Ro.os Hr.out) (fun r hr=>(He.out r hr).sub jH) hSb
     clear hS hi hlt eb
     go_wp2_with ((with_reducible refine bD ⟨?_⟩);refine gI hSb ah aZ Tryz.underlying278 rfl au ?_)
     refine oK.mono ?_
     rintro ee w5 ⟨v,rfl,t,rfl,ht,h5⟩
     obtain rfl:t=true:=ht.2 bU.out.rise
     clear oK hSb ht
     go_wp2_with fail
     have hxs:=OE tC.out (by have:=oh.out;omega) (RS.MG h5) h5
     obtain ⟨S,HS⟩:∃ S,Hid (Xx.sum (aS.body mg kd (rs.map (·.x)))=S):=⟨_,uQ rfl⟩
     have AL:=uQ (show S<Xx.W by rw [← HS.out];exact Xx.sum_lt _)
     rw [HS.out]at hxs
     refine hxs.mono ?_
     rintro ee w6 ⟨v,rfl,rfl,h6⟩
     clear h5 hxs
     go_wp2_with fail
     refine (afz S AL.out h6).mono ?_
     rintro ee w7 ⟨v,rfl,h7,_⟩
     clear h6
     go_wp2_with (with_reducible apply P6)
     refine ⟨Ot (m:=aj.le S 8) (h7.pick aZ) ah ah (Sat.rd h7) (fun e=>by have k:=aje List.length e;rw [aj.iH]at k;cases k) (by rw [aj.iH];have:=oh.out;omega) ?_⟩
     intro v8 w8 h8
     have h9:Sat w0 w8 (iM v8 (aS.book Xx.sum mg kd (rs.map (·.x)))::F):=by unfold aS.book;rw [HS.out];exact h8.sb
     clear h7 h8
     go_wp2_with fail
     go_ret2
     exact ⟨_,rfl,v8,rfl,h9⟩
end
section
variable {P:Program}{w w':World}{ops:Array Oper}{rest:List Oper}{a:Act}{Q:Exit→Act→World→Prop}{dst:Option Tmp}{t ty:TypeId}{pos:String}{after:Array Edge}{n:Nat}{xs:Array (Nat×Operand)}{v:Value}
theorem Z9 (h:Stop (wpList P ops Q (⟨dst,.buildSlice ty n xs,t,pos,after,none⟩::rest) a w)):wpList P ops Q (⟨dst,.buildSlice ty n xs,t,pos,after,none⟩::rest) a w:=h.out
theorem aiD (parts':Array (Nat×Value)) (he:xs.map (fun p=>(p.1,a.eval p.2))=parts') (hr:(Instr.buildSlice ty n parts').run P w = .ok v w') (h:wpList P ops Q rest (a.put dst v) w'):wpList P ops Q (⟨dst,.buildSlice ty n xs,t,pos,after,none⟩::rest) a w:=
 ajx rfl fun _ hK=>by
  unfold Oper.wp execOp
  simp only [he,adO,hr,ac2,aeC]
  exact hK _ _ h
end
section
variable {w0 w:World}{F:List aG}
set_option maxRecDepth 20000 in
theorem aip (a b c:Int) (h:Sat w0 w F):Calls Tryz.prog 184 #[.agg #[.int .i64 a,.int .i64 b,.int .i64 c]] w
  (aO fun v w'=>∃ q,v = .agg (bW ⟨⟨aj.zero32,[a,b,c]⟩,.slice (some ⟨q,0,none⟩) 3 3⟩).toArray∧Sat w0 w' (pt q (.cells #[.int .i64 a,.int .i64 b,.int .i64 c] 3 (0,0))::F)):=by
 have hbs:∀ w,(Instr.buildSlice 37 3 #[(0,.int .i64 a),(1,.int .i64 b),(2,.int .i64 c)]).run Tryz.prog w = .ok (.slice (some ⟨w.heap.size,0,none⟩) 3 3) (w.alloc (.cells #[.int .i64 a,.int .i64 b,.int .i64 c] 3)):=fun w=>by kernel_rfl
 have hrow:∀ w q,(Instr.build 284 #[(1,.slice (some ⟨q,0,none⟩) 3 3)]).run Tryz.prog w = .ok (.agg (bW ⟨⟨aj.zero32,[a,b,c]⟩,.slice (some ⟨q,0,none⟩) 3 3⟩).toArray) w:=fun w q=>by kernel_rfl
 go_enter Tryz.func184,Tryz.ntmps184
 go_wp2_with (with_reducible apply eG)
 refine ⟨eH h ah ah ?_⟩
 intro b1 w1 h1
 go_wp2_with (with_reducible apply eU)
 refine ⟨dU wZ h1 rfl ?_⟩
 intro b2 w2 h2
 have hS:=h2.alloc (.cells #[.int .i64 a,.int .i64 b,.int .i64 c] 3)
 generalize hq:w2.heap.size=q at *
 have hq2:=hq
 go_wp2_with (first
  |((with_reducible refine bD ⟨?_⟩);refine dV h2 ah aZ bF ak au ?_)
  |((with_reducible refine bY ⟨?_⟩);refine fE (bW ⟨⟨aj.zero32,[a,b,c]⟩,.slice (some ⟨q,0,none⟩) 3 3⟩).toArray hS ah ah ah Oh au ah ?_;intro w9 h9))
 refine ⟨rfl,_,wJ rfl h9 ah aY Tryz.underlying284 rfl au,?_⟩
 exact ⟨_,rfl,q,rfl,h9.sb⟩
theorem afp:qW Tryz.prog 284=some [(0,32),(32,1)]:=by kernel_rfl
theorem agX (k:aj.Bs) (hk:k.length=32) (x:aS.Rw) (hx:x.key=k) (nv:Value) (q:Nat) (rU:nv = .slice (some ⟨q,0,none⟩) 3 3) (w:World):(Instr.build 284 #[(0,.agg (aA k).toArray),(1,nv)]).run Tryz.prog w = .ok (.agg (bW ⟨x,nv⟩).toArray) w:=by
 subst rU;subst hx
 have h:=ak8 (P:=Tryz.prog) [(0,.agg (aA x.key).toArray),(1,.slice (some ⟨q,0,none⟩) 3 3)] afp wZ (by
  intro p hp
  have hzz:(Value.agg (bW sO).toArray).cells.size=33:=by rfl
  rw [hzz]
  rcases aer.1 hp with rfl|hp
  ·refine ⟨0,?_,?_⟩
   ·show some (0,32)=some (0,(aA x.key).toArray.size);rw [aaI,aV,hk]
   ·show 0+(aA x.key).toArray.size≤33
    rw [aaI,aV,hk];decide
  ·rw [aiR.1 hp]
   exact ⟨32,rfl,by show 32+1≤33;omega⟩) w
 refine h.trans ?_
 have hz:aj.zero32.length=32:=rfl
 have hzl:(bW sO).length=33:=kD _ hz
 have e:dM (dM (bW sO).toArray 0 (aA x.key)) 32 [.slice (some ⟨q,0,none⟩) 3 3]=(bW ⟨x,.slice (some ⟨q,0,none⟩) 3 3⟩).toArray:=by
  apply nT
  rw [uH _ _ _ (by rw [jM,aaI,hzl];exact acy 33),uH _ _ _ (by rw [aaI,hzl,aV,hk];decide),adM]
  have e1:jL (bW sO) 0 (aA x.key)=aA x.key++[.slice none 0 0]:=by
   unfold bW sO
   rw [zX _ _ _ _ (by rw [aV,aV,hk,hz];decide),wF (by rw [aV,aV,hk,hz])]
  have h0:=wG (aA x.key) [.slice none 0 0] [.slice (some ⟨q,0,none⟩) 3 3] 0
  rw [aV,hk,wF (xs:=[Value.slice none 0 0]) (vs:=[Value.slice (some ⟨q,0,none⟩) 3 3]) ah]at h0
  rw [e1]
  exact h0
 exact aje (fun x=>Result.ok (Value.agg x) w) e
set_option maxRecDepth 20000 in
theorem adv (k:aj.Bs) (hk:k.length=32) (a b c:Int) (h:Sat w0 w F):Calls Tryz.prog 180 #[.agg (aA k++[Value.int .i64 a,Value.int .i64 b,Value.int .i64 c]).toArray] w
  (aO fun v w'=>∃ q,v = .agg (bW ⟨⟨k,[a,b,c]⟩,.slice (some ⟨q,0,none⟩) 3 3⟩).toArray∧Sat w0 w' (pt q (.cells #[.int .i64 a,.int .i64 b,.int .i64 c] 3 (0,0))::F)):=by
 have hbs:∀ w,(Instr.buildSlice 37 3 #[(0,.int .i64 a),(1,.int .i64 b),(2,.int .i64 c)]).run Tryz.prog w = .ok (.slice (some ⟨w.heap.size,0,none⟩) 3 3) (w.alloc (.cells #[.int .i64 a,.int .i64 b,.int .i64 c] 3)):=fun w=>by kernel_rfl
 have hrow:∀ w q,(Instr.build 284 #[(0,.agg (aA k).toArray),(1,.slice (some ⟨q,0,none⟩) 3 3)]).run Tryz.prog w = .ok (.agg (bW ⟨⟨k,[a,b,c]⟩,.slice (some ⟨q,0,none⟩) 3 3⟩).toArray) w:=fun w q=>agX k hk ⟨k,[a,b,c]⟩ rfl _ q rfl w
 have hsz:(aA k++[Value.int .i64 a,Value.int .i64 b,Value.int .i64 c]).toArray.size=35:=by rw [aaI,aal,aV,hk];rfl
 have hat:∀ j v,([Value.int .i64 a,Value.int .i64 b,Value.int .i64 c]:List Value)[j]?=some v→(aA k++[Value.int .i64 a,Value.int .i64 b,Value.int .i64 c]).toArray.getD (32+j) undef=v:=fun j v hj=>by
  rw [akn,abL,adQ (by rw [aV,hk];omega),aV,hk,akY,hj];rfl
 have hki:(Tryz.prog.info? 31).map (·.size)=some (aA k).length:=by rw [aV,hk];kernel_rfl
 go_enter Tryz.func180,Tryz.ntmps180
 go_wp2_with (with_reducible apply eG)
 refine ⟨eH h ah ah ?_⟩
 intro b1 w1 h1
 go_wp2_with (with_reducible apply eU)
 refine ⟨dU wZ h1 rfl ?_⟩
 intro b2 w2 h2
 replace h2:Sat w0 w2 (pt b2 (.cells (bW sO).toArray 284 (0,0))::pt b1 (.cells (aA k++[Value.int .i64 a,Value.int .i64 b,Value.int .i64 c]).toArray 243 (0,0))::F):=h2
 have hS:=h2.alloc (.cells #[.int .i64 a,.int .i64 b,.int .i64 c] 3)
 have hrs:∀ q,(bW ⟨⟨k,[a,b,c]⟩,.slice (some ⟨q,0,none⟩) 3 3⟩).toArray.size=33:=fun q=>jR _ hk
 go_wp2_with (first
  |((with_reducible refine bD ⟨?_⟩);first
   |refine Au (o:=0) (aA k) h2 ah aZ (fun j v hj=>by rw [aen,abL,adV (abl.1 hj).1];exact hj) Tryz.underlying31 rfl hki ?_
   |refine dV (o:=32) h2 ah aZ (by show 33≤(aA k++_).toArray.size;rw [hsz];decide) (hat 0 _ rfl) au ?_
   |refine dV (o:=33) h2 ah aZ (by show 34≤(aA k++_).toArray.size;rw [hsz];decide) (hat 1 _ rfl) au ?_
   |refine dV (o:=34) h2 ah aZ (by show 35≤(aA k++_).toArray.size;rw [hsz];decide) (hat 2 _ rfl) au ?_)
  |(with_reducible apply Z9))
 refine ⟨aiD #[(0,.int .i64 a),(1,.int .i64 b),(2,.int .i64 c)] (by simp only [ajR,ag8,ajP];rfl) (hbs _) ?_⟩
 generalize hq:w2.heap.size=q at *
 go_wp2_with (with_reducible apply Z')
 refine ⟨aiE #[(0,.agg (aA k).toArray),(1,.slice (some ⟨q,0,none⟩) 3 3)] (by simp only [ajR,ag8,ajP];rfl) (fun w=>hrow w q) ?_⟩
 go_wp2_with (with_reducible apply bY)
 refine ⟨fE (bW ⟨⟨k,[a,b,c]⟩,.slice (some ⟨q,0,none⟩) 3 3⟩).toArray hS ah ah (by rw [hrs q];rfl) Oh (by rw [hrs q];kernel_rfl) (by unfold bW;rw [adM,ajZ,qJ];rfl) ?_⟩
 intro w9 h9
 go_wp2_with fail
 refine ⟨rfl,_,wJ rfl h9 ah aY Tryz.underlying284 rfl (by rw [hrs q];kernel_rfl),?_⟩
 exact ⟨_,rfl,_,rfl,h9.sb⟩
end
end Go.Proofs.YtiglchkhikciiaaGreatDoor
namespace Go.Rep
def jc (u:Use):aS.Rw:=⟨aj.zero32,[u.seg,u.size,u.live]⟩
def iY (p:aj.Bs×Seg.aU):aS.Rw:=⟨p.1,[p.2.seg,p.2.at_,p.2.size]⟩
end Go.Rep
namespace Go.Proofs.YtiglchkhikciiaaGreatDoor
open Go Go.Sl Go.ay Go.MapKept Go.RowKit
def iy (rs:List RV):aG:=stars (rs.map fun r=>aC 3 1 r.nv (ints r.x.nums))
section
variable {w0 w:World}{F:List aG}{lv:Value}{rs:List RV}{r:RV}
theorem ae5 (rs:List RV) (r:RV):iy (rs++[r])=star (aC 3 1 r.nv (ints r.x.nums)) (iy rs):=by
 unfold iy
 rw [aey,pK,ag8,ajP,Ak,Aj]
theorem FZ (h:Sat w0 w (aC 3 1 r.nv (ints r.x.nums)::iy rs::F)):Sat w0 w (iy (rs++[r])::F):=by
 rw [ae5];exact Sat.star.2 h
theorem zQ (hr:r∈rs) (hk:r.x.key.length=32) (hn:0<r.x.nums.length):qh w0 (iy rs::F) r:=by
 refine ⟨hk,fun w hw=>?_,hn⟩
 obtain ⟨G,hG⟩:=XH (rs.map fun r=>aC 3 1 r.nv (ints r.x.nums)) _ (akS hr)
 have h1:Sat w0 w (star (aC 3 1 r.nv (ints r.x.nums)) G::F):=by rw [← hG];exact hw
 exact Sat.rd (Sat.star.1 h1)
theorem Vs {q:Nat}{a b c:Int} (h:Sat w0 w (pt q (.cells #[.int .i64 a,.int .i64 b,.int .i64 c] 3 (0,0))::F)):Sat w0 w (aC 3 1 (.slice (some ⟨q,0,none⟩) 3 3) (ints [a,b,c])::F):=
 Sat.kC h rfl (acy _) (acy _) aN rfl
theorem Ae {k:aj.Bs}{ns:List Int}{a:Option Addr}{n c:Nat}:(bW ⟨⟨k,ns⟩,.slice a n c⟩).toArray.toList.all (·.oneCell')=true:=by
 rw [adM];unfold bW;rw [ajZ,qJ];rfl
set_option maxRecDepth 20000 in
theorem afw (us:List Rep.Use) (hl:us.length≤65536) (hr:Ro w0 F (bg 3 lv (us.flatMap bI))) (h:Sat w0 w F) :
  Calls Tryz.prog 183 #[lv,.func (.func 184) #[] #[]] w (aO fun v w'=>∃ rs:List RV,rs.map (·.x)=us.map Rep.jc∧Sat w0 w' (aC 284 33 v (rs.flatMap bW)::iy rs::F)):=by
 obtain ⟨la,lc,rfl⟩:=iD (fun u _=>uK u) (hr w h) aN
 have Hr:=uQ hr;have Hl:=uQ hl
 clear hr hl
 go_enter Tryz.func183,Tryz.ntmps183
 go_wp2_with fail
 go_loopg [5,10] us.length (fun g ov iq wr=>∃ (i:Nat) (rs:List RV) (o2:Value),g=us.length - i∧i≤us.length∧o2=ov∧iq = .int .i64 i∧(rs.map (·.x)=(us.take i).map Rep.jc∧∀ r∈rs,r.x.key.length=32)∧Sat w0 wr (aC 284 33 o2 (rs.flatMap bW)::iy rs::F))
 case atStart=>exact ⟨0,[],_,rfl,afm _,rfl,rfl,⟨rfl,fun r hr=>by cases hr⟩,Sat.fD.2 (Sat.emp.2 h)⟩
 case round=>
  obtain ⟨i,rs,ov,rfl,hi,rfl,rfl,hrs,hS⟩:=hrel
  clear h
  by_cases hlt:i<us.length
  ·as_aux_lemma=>
    have c3:(i:Int)<(us.length:Int):=oQ
    have hwi:IntKind.i64.wrap ((i:Int)+1)=(i:Int)+1:=acI _ (by have:=Hl.out;omega)
    obtain ⟨u,hx⟩:∃ u,us[i]?=some u:=⟨_,aak hlt⟩
    obtain ⟨bk,off,c',hsv,hcell⟩:=iC (f:=bI) (k:=3) (fun u _=>uK u) (Hr.out _ hS.drop.drop) hx aN
    cases hsv
    have bT:=uQ hlt;have qG:=uQ hrs
    have fB:=uQ (show us.take (i+1)=us.take i++[u] from aS.jS hx)
    have jA:=uQ (show (rs.flatMap bW).length≤2147483648 from by
     rw [iE fun r hr=>kD r (hrs.2 r hr)]
     have:=aje List.length hrs.1
     rw [aaJ,aaJ,acJ]at this
     have:=Hl.out
     omega)
    clear hx hlt hi hrs
    go_wp2_with (first
     |((with_reducible refine bD ⟨?_⟩);refine gU (b:=bk) (o:=off+i * 3) (bI u) ah hcell Tryz.underlying73 rfl au ?_)
     |(with_reducible apply eU))
    refine ⟨dU Ir hS rfl ?_⟩
    intro b8 w8 h8
    clear hS hcell
    go_wp2_with (with_reducible apply bY)
    refine ⟨fE (bI u).toArray h8 ah ah ah bZ au ah ?_⟩
    intro w9 h9
    clear h8
    go_wp2_with ((with_reducible refine bD ⟨?_⟩);refine gI h9 ah aT Tryz.underlying73 rfl au ?_)
    refine (aip u.seg u.size u.live h9).mono ?_
    rintro ee w10 ⟨v,rfl,q,rfl,h10⟩
    clear h9
    have h11:=Vs h10
    clear h10
    go_wp2_with (first
     |((with_reducible refine ny ⟨?_⟩);refine nH (e:=284) (sz:=33) (dS:=56) (cs:=(bW ⟨Rep.jc u,.slice (some ⟨q,0,none⟩) 3 3⟩).toArray) au h11 ah rfl (jR ⟨Rep.jc u,.slice (some ⟨q,0,none⟩) 3 3⟩ rfl) bF ?_;intro bN wN hN)
     |(with_reducible apply lg))
    refine ⟨nG (cs:=(bW ⟨Rep.jc u,.slice (some ⟨q,0,none⟩) 3 3⟩).toArray) 284 33 56 au hN ah ah (aW (aW (aW aT))) aT (jR ⟨Rep.jc u,.slice (some ⟨q,0,none⟩) 3 3⟩ rfl) bF Ae jA.out (by rw [jR ⟨Rep.jc u,.slice (some ⟨q,0,none⟩) 3 3⟩ rfl];decide) bF rfl ?_⟩
    intro b' n' c2 kR gW
    go_wp2_with fail
    go_roundg (us.length - (i+1))
    case measure=>have:=bT.out;omega
    case rel=>
     refine ⟨i+1,rs++[⟨Rep.jc u,.slice (some ⟨q,0,none⟩) 3 3⟩],_,rfl,aiy bT.out,rfl,by first|rfl|go_num,⟨?_,?_⟩,?_⟩
     ·rw [aey,fB.out,aey,qG.out.1];rfl
     ·intro r hr
      rcases ajk.1 hr with hr|hr
      ·exact qG.out.2 r hr
      ·rw [aiR.1 hr];exact rfl
     ·rw [ajj,ai7,aks,afo]
      have h15:Sat w0 kR (aC 3 1 (.slice (some ⟨q,0,none⟩) 3 3) (ints (Rep.jc u).nums)::iy rs::aC 284 33 (.slice (some ⟨b',0,none⟩) n' c2) (rs.flatMap bW++bW ⟨Rep.jc u,.slice (some ⟨q,0,none⟩) 3 3⟩)::F):=gW.sb
      exact (FZ (r:=⟨Rep.jc u,.slice (some ⟨q,0,none⟩) 3 3⟩) h15).sb
  ·have c3:¬ (i:Int)<(us.length:Int):=by omega
   have hi2:i=us.length:=oQ
   subst hi2
   rw [aiv]at hrs
   clear hi hlt
   go_wp2_with fail
   go_ret
   exact ⟨_,rfl,rs,hrs.1,hS⟩
set_option maxRecDepth 20000 in
theorem afv (us:List (aj.Bs×Seg.aU)) (hl:us.length≤65536) (hk:∀ q∈us,q.1.length=32) (hr:Ro w0 F (bg 35 lv (us.flatMap fC))) (h:Sat w0 w F) :
  Calls Tryz.prog 179 #[lv,.func (.func 180) #[] #[]] w (aO fun v w'=>∃ rs:List RV,rs.map (·.x)=us.map Rep.iY∧Sat w0 w' (aC 284 33 v (rs.flatMap bW)::iy rs::F)):=by
 have Hk:=uQ hk
 clear hk
 obtain ⟨la,lc,rfl⟩:=iD (fun u hu=>ku u (Hk.out u hu)) (hr w h) aN
 have Hr:=uQ hr;have Hl:=uQ hl
 clear hr hl
 go_enter Tryz.func179,Tryz.ntmps179
 go_wp2_with fail
 go_loopg [5,10] us.length (fun g ov iq wr=>∃ (i:Nat) (rs:List RV) (o2:Value),g=us.length - i∧i≤us.length∧o2=ov∧iq = .int .i64 i∧(rs.map (·.x)=(us.take i).map Rep.iY∧∀ r∈rs,r.x.key.length=32)∧Sat w0 wr (aC 284 33 o2 (rs.flatMap bW)::iy rs::F))
 case atStart=>exact ⟨0,[],_,rfl,afm _,rfl,rfl,⟨rfl,fun r hr=>by cases hr⟩,Sat.fD.2 (Sat.emp.2 h)⟩
 case round=>
  obtain ⟨i,rs,ov,rfl,hi,rfl,rfl,hrs,hS⟩:=hrel
  clear h
  by_cases hlt:i<us.length
  ·as_aux_lemma=>
    have c3:(i:Int)<(us.length:Int):=oQ
    have hwi:IntKind.i64.wrap ((i:Int)+1)=(i:Int)+1:=acI _ (by have:=Hl.out;omega)
    obtain ⟨u,hx⟩:∃ u,us[i]?=some u:=⟨_,aak hlt⟩
    obtain ⟨bk,off,c',hsv,hcell⟩:=iC (f:=fC) (k:=35) (fun u hu=>ku u (Hk.out u hu)) (Hr.out _ hS.drop.drop) hx aN
    cases hsv
    have bT:=uQ hlt;have qG:=uQ hrs
    have fB:=uQ (show us.take (i+1)=us.take i++[u] from aS.jS hx)
    have jA:=uQ (show (rs.flatMap bW).length≤2147483648 from by
     rw [iE fun r hr=>kD r (hrs.2 r hr)]
     have:=aje List.length hrs.1
     rw [aaJ,aaJ,acJ]at this
     have:=Hl.out
     omega)
    have ou:=uQ (Hk.out u (abA hx))
    clear hx hlt hi hrs
    go_wp2_with (first
     |((with_reducible refine bD ⟨?_⟩);refine gU (b:=bk) (o:=off+i * 35) (fC u) ah hcell Tryz.underlying243 rfl (by rw [ku _ ou.out];kernel_rfl) ?_)
     |(with_reducible apply eU))
    refine ⟨dU Iq hS rfl ?_⟩
    intro b8 w8 h8
    clear hS hcell
    go_wp2_with (with_reducible apply bY)
    refine ⟨fE (fC u).toArray h8 ah ah (by rw [aaI,ku _ ou.out];rfl) bZ (by rw [aaI,ku _ ou.out];kernel_rfl) (by rw [adM];exact C9 u) ?_⟩
    intro w9 h9
    clear h8
    go_wp2_with ((with_reducible refine bD ⟨?_⟩);refine gI h9 ah aT Tryz.underlying243 rfl (by rw [aaI,ku _ ou.out];kernel_rfl) ?_)
    refine (adv u.1 ou.out u.2.seg u.2.at_ u.2.size h9).mono ?_
    rintro ee w10 ⟨v,rfl,q,rfl,h10⟩
    clear h9
    have h11:=Vs h10
    clear h10
    go_wp2_with (first
     |((with_reducible refine ny ⟨?_⟩);refine nH (e:=284) (sz:=33) (dS:=56) (cs:=(bW ⟨Rep.iY u,.slice (some ⟨q,0,none⟩) 3 3⟩).toArray) au h11 ah rfl (jR ⟨Rep.iY u,.slice (some ⟨q,0,none⟩) 3 3⟩ ou.out) bF ?_;intro bN wN hN)
     |(with_reducible apply lg))
    refine ⟨nG (cs:=(bW ⟨Rep.iY u,.slice (some ⟨q,0,none⟩) 3 3⟩).toArray) 284 33 56 au hN ah ah (aW (aW (aW aT))) aT (jR ⟨Rep.iY u,.slice (some ⟨q,0,none⟩) 3 3⟩ ou.out) bF Ae jA.out (by rw [jR ⟨Rep.iY u,.slice (some ⟨q,0,none⟩) 3 3⟩ ou.out];decide) bF rfl ?_⟩
    intro b' n' c2 kR gW
    go_wp2_with fail
    go_roundg (us.length - (i+1))
    case measure=>have:=bT.out;omega
    case rel=>
     refine ⟨i+1,rs++[⟨Rep.iY u,.slice (some ⟨q,0,none⟩) 3 3⟩],_,rfl,aiy bT.out,rfl,by first|rfl|go_num,⟨?_,?_⟩,?_⟩
     ·rw [aey,fB.out,aey,qG.out.1];rfl
     ·intro r hr
      rcases ajk.1 hr with hr|hr
      ·exact qG.out.2 r hr
      ·rw [aiR.1 hr];exact ou.out
     ·rw [ajj,ai7,aks,afo]
      have h15:Sat w0 kR (aC 3 1 (.slice (some ⟨q,0,none⟩) 3 3) (ints (Rep.iY u).nums)::iy rs::aC 284 33 (.slice (some ⟨b',0,none⟩) n' c2) (rs.flatMap bW++bW ⟨Rep.iY u,.slice (some ⟨q,0,none⟩) 3 3⟩)::F):=gW.sb
      exact (FZ (r:=⟨Rep.iY u,.slice (some ⟨q,0,none⟩) 3 3⟩) h15).sb
  ·have c3:¬ (i:Int)<(us.length:Int):=by omega
   have hi2:i=us.length:=oQ
   subst hi2
   rw [aiv]at hrs
   clear hi hlt
   go_wp2_with fail
   go_ret
   exact ⟨_,rfl,rs,hrs.1,hS⟩
end
section
variable {P:Program}{w0 w:World}{F:List aG}{ops:Array Oper}{rest:List Oper}{a:Act}{Q:Exit→Act→World→Prop}{dst:Option Tmp}{t ty:TypeId}{pos:String}{after:Array Edge}{x:Operand}{v vy:Value}
theorem aae (h:Stop (wpList P ops Q (⟨dst,.sliceToArrayPointer ty x,t,pos,after,none⟩::rest) a w)):wpList P ops Q (⟨dst,.sliceToArrayPointer ty x,t,pos,after,none⟩::rest) a w:=h.out
theorem aiH (hx:a.eval x=v) (hr:∀ w,(Instr.arrayAt ty v).run P w = .ok vy w) (h:wpList P ops Q rest (a.put dst vy) w):wpList P ops Q (⟨dst,.sliceToArrayPointer ty x,t,pos,after,none⟩::rest) a w:=
 ajx rfl fun _ hK=>by
  unfold Oper.wp execOp
  simp only [hx,adO,hr,ac2,aeC]
  exact hK _ _ h
theorem P7 (h:Stop (wpList P ops Q (⟨dst,.build ty #[],t,pos,after,none⟩::rest) a w)):wpList P ops Q (⟨dst,.build ty #[],t,pos,after,none⟩::rest) a w:=h.out
end
section
variable {w0 w:World}{F:List aG}{rv lv bv:Value}{p:Nat}
theorem Xi (w:World):(Instr.build 284 #[]).run Tryz.prog w = .ok (.agg (bW sO).toArray) w:=by kernel_rfl
theorem afB (k:aj.Bs) (hk:k.length=32) (nv:Value):dM (bW ⟨⟨aj.zero32,[]⟩,nv⟩).toArray 0 (aA k)=(bW ⟨⟨k,[]⟩,nv⟩).toArray:=by
 have hz:aj.zero32.length=32:=rfl
 apply nT
 rw [uH _ _ _ (by rw [aaI,kD _ hz,aV,hk];decide),adM]
 unfold bW
 rw [zX _ _ _ _ (by rw [aV,aV,hk,hz];decide),wF (by rw [aV,aV,hk,hz])]
theorem VT (k:aj.Bs) (hk:k.length=32) (ns ms:List Int) (nv mv:Value):dM (bW ⟨⟨k,ns⟩,nv⟩).toArray 32 [mv]=(bW ⟨⟨k,ms⟩,mv⟩).toArray:=by
 apply nT
 rw [uH _ _ _ (by rw [aaI,kD _ hk];exact acy 33),adM]
 have h0:=wG (aA k) [nv] [mv] 0
 rw [aV,hk,wF (xs:=[nv]) (vs:=[mv]) ah]at h0
 exact h0
abbrev nV (b:Nat) (k:aj.Bs) (ns:List Int) (nv:Value):aG:=pt b (.cells (bW ⟨⟨k,ns⟩,nv⟩).toArray 284 (0,0))
abbrev jD (b:Nat) (mg:ByteArray) (kd:Bool) (k:Nat):aG:=pt b (.cells (kX mg kd k) 278 (0,0))
set_option maxRecDepth 20000 in
theorem ad1 (dX:ByteArray) (k:Nat) (hk:k≤3) (rs:List aS.Rw) (hok:∀ r∈rs,aS.uY k r) (hn:rs.length≤65536) (hz:∀ r∈rs,r.key=aj.zero32) (T:aj.Bs) (hr:RS w0 F rv (aS.jg false rs++T)) (h:Sat w0 w (gY p rv::F)) :
  Calls Tryz.prog 239 #[.agg (kX dX false k),ptr p,.int .i64 rs.length] w (aO fun v w'=>∃ (vs:List RV) (rv':Value),vs.map (·.x)=rs∧RS w0 F rv' T∧Sat w0 w' (aC 284 33 v (vs.flatMap bW)::iy vs::gY p rv'::F)):=by
 have Hr:=uQ hr;have bU:=uQ hok;have Hn:=uQ hn;have Hk:=uQ hk;have Hz:=uQ hz
 clear hr hok hn hk hz
 go_enter Tryz.func239,Tryz.ntmps239
 go_wp2_with (with_reducible apply eG)
 refine ⟨eH h ah ah ?_⟩
 intro b3 w3 h3
 replace h3:Sat w0 w3 (gY p rv::jD b3 dX false k::F):=h3.sb
 clear h
 go_wp2_with fail
 go_loopg [7,10] rs.length (fun g oq iq wr=>∃ (i:Nat) (vs:List RV) (ov pJ:Value),g=rs.length - i∧i≤rs.length∧ov=oq∧iq = .int .i64 i∧RS w0 F pJ (aS.jg false (rs.drop i)++T)∧(vs.map (·.x)=rs.take i∧∀ x∈vs,x.x.key.length=32) ∧
  Sat w0 wr (aC 284 33 ov (vs.flatMap bW)::iy vs::gY p pJ::jD b3 dX false k::F))
 case atStart=>exact ⟨0,[],_,rv,rfl,afm _,rfl,rfl,Hr.out,⟨rfl,fun r hr=>by cases hr⟩,Sat.fD.2 (Sat.emp.2 h3)⟩
 case round=>
  obtain ⟨i,vs,ov,sH,rfl,hi,rfl,rfl,hRS,hvs,hS⟩:=hrel
  clear h3
  by_cases hlt:i<rs.length
  ·as_aux_lemma=>
    have c3:(i:Int)<(rs.length:Int):=oQ
    have hwi:IntKind.i64.wrap ((i:Int)+1)=(i:Int)+1:=acI _ (by have:=Hn.out;omega)
    obtain ⟨r,hx⟩:∃ r,rs[i]?=some r:=⟨_,aak hlt⟩
    have lH:=uQ (bU.out r (abA hx))
    have Y8:=uQ (Hz.out r (abA hx))
    have fB:=uQ (aS.jS hx)
    have bT:=uQ hlt;have kF:=uQ hvs
    have KP:=uQ (show (vs.flatMap bW).length≤2147483648 from by
     rw [iE fun r hr=>kD r (hvs.2 r hr)]
     have:=aje List.length hvs.1
     rw [aaJ,acJ]at this
     have:=Hn.out
     omega)
    rw [aS.WO hx,adR]at hRS
    obtain ⟨Y,hY⟩:∃ Y,aS.jg false (rs.drop (i+1))++T=Y:=⟨_,rfl⟩
    rw [hY]at hRS
    have HY:=uQ hY
    clear hY
    have jJ:=uQ (show RS w0 F sH (aS.iL r.nums++Y) from by unfold aS.rowB at hRS;exact hRS)
    clear hx hlt hi hvs hRS
    go_wp2_with (first
     |((with_reducible refine P7 ⟨?_⟩);refine yR ah Xi ?_)
     |(with_reducible apply eU))
    refine ⟨dU wZ hS rfl ?_⟩
    intro b8 w8 h8
    clear hS
    go_wp2_with (with_reducible apply bY)
    refine ⟨fE (bW sO).toArray h8 ah ah ah bZ au ah ?_⟩
    intro w9 h9
    clear h8
    have HR:=jJ
    have h10:Sat w0 w9 (nV b8 r.key (r.nums.take 0) (.slice none 0 0)::aC 3 1 (.slice none 0 0) (ints (r.nums.take 0))::gY p sH::jD b3 dX false k::aC 284 33 ov (vs.flatMap bW)::iy vs::F):=by
     rw [ajD,Y8.out];exact (Sat.fD.2 h9).sb
    clear h9
    have h9:=h10
    clear h10
    generalize sH=pJ at *
    go_wp2_with ((with_reducible refine bD ⟨?_⟩);refine dV h9 ah (aW (aW (aW aT))) bF ak au ?_)
    go_wp2_with ((with_reducible refine bD ⟨?_⟩);refine dV h9 ah (aW (aW (aW aT))) bF ak au ?_)
    go_loopg [22] k (fun g iq wr=>∃ (j:Nat) (nv kL:Value),g=k - j∧j≤k∧iq = .int .i64 j∧RS w0 F kL (aS.iL (r.nums.drop j)++Y)∧Sat w0 wr (nV b8 r.key (r.nums.take j) nv::aC 3 1 nv (ints (r.nums.take j))::gY p kL::jD b3 dX false k::aC 284 33 ov (vs.flatMap bW)::iy vs::F))
    case atStart=>exact ⟨0,_,pJ,rfl,afm _,rfl,HR.out,h9⟩
    case round=>
     obtain ⟨j,nv,kL,rfl,hj,rfl,hRS,hSj⟩:=hrel
     clear h9
     by_cases hjl:j<k
     ·as_aux_lemma=>
      have c4:(j:Int)<(k:Int):=oQ
      have Lc:IntKind.i64.wrap ((j:Int)+1)=(j:Int)+1:=acI _ (by have:=Hk.out;omega)
      obtain ⟨n,hn⟩:∃ n,r.nums[j]?=some n:=⟨_,aak (by rw [lH.out.len];exact hjl)⟩
      have hnb:=lH.out.num n (abA hn)
      obtain ⟨x,rfl⟩:∃ x:Nat,n=(x:Int):=⟨n.toNat,by omega⟩
      have hdr:aS.iL (r.nums.drop j)=aj.le x 4++aS.iL (r.nums.drop (j+1)):=by
       have:=aS.Vt hn
       rwa [alf]at this
      have fB:=uQ (aS.jS hn)
      rw [hdr,adR]at hRS
      have hnum:aj.num ((aj.le x 4++(aS.iL (r.nums.drop (j+1))++Y)).take 4)=x:=by
       rw [aS.Oe]
       have:=aS.Vo hnb
       rwa [alf]at this
      have Ci:=aS.EO x (aS.iL (r.nums.drop (j+1))++Y)
      have hw2:IntKind.i64.wrap (x:Int)=(x:Int):=acI _ oQ
      have hrn:=uQ (fun (w':World) (R:List aG) (hr':RS w0 R kL (aj.le x 4++(aS.iL (r.nums.drop (j+1))++Y))) (hw:Sat w0 w' (gY p kL::R))=>Gt (by rw [aal,aj.iH];omega) hr' hw)
      rw [hnum,Ci]at hrn
      have jJ:=uQ hRS;have pV:=uQ hjl
      have hkey:=lH.out.key
      have dO:=uQ hkey
      have Hsm:=uQ (show (r.nums.take j).length≤2147483648 from by rw [acJ];have:=Hk.out;omega)
      obtain ⟨na,nn,nc,rfl,hnl,_⟩:=Sat.rd (hSj.pick aZ)
      clear hn hnb hjl hj hdr hnum Ci hkey hnl hRS
      go_wp2_with fail
      have h10:=hSj.drew
      clear hSj
      refine dH [6,7,8] (fun w'=>w'.cell? ⟨b8,32,none⟩=some (.slice na nn nc)) au ?_
      have HG:=uQ (fun (w':World) (R:List aG) (hw:Sat w0 w' (nV b8 r.key (r.nums.take j) (.slice na nn nc)::R))=>show w'.cell? ⟨b8,32,none⟩=some (.slice na nn nc) from hw.cellP aT 32 (yM (x:=⟨r.key,r.nums.take j⟩) dO.out))
      have hG:=HG.out _ _ h10
      refine rP 0 ?_ (y:=cO)
      refine rt 1 (h:=?_)
      clear hG
      refine rP 2 ?_ (y:=aX)
      refine bV 3 ak au (fun K hK=>?_)
      (refine gy au ak ak ?_)
      refine (hrn.out _ _ (jJ.out.more jH) (h10.sb:Sat w0 _ (gY p kL::nV b8 r.key (r.nums.take j) (.slice na nn nc)::aC 3 1 (.slice na nn nc) (ints (r.nums.take j))::jD b3 dX false k::aC 284 33 ov (vs.flatMap bW)::iy vs::F))).mono ?_
      rintro ee jd ⟨v,rfl,rv3,rfl,qL,h11⟩
      refine hK _ _ (.inr (.inl (HG.out _ _ (h11.sb)))) ?_
      have IC:=uQ (qL _ jJ.out)
      clear hK h10 hrn qL jJ
      refine rP 4 ?_ (y:=(OH ak dh))
      refine bV 5 ak au (fun K hK=>?_)
      refine QU (e:=3) (sz:=1) (dS:=8) au h11 ak (cs:=#[.int .i64 (x:Int)]) rfl rfl aN ?_
      intro bN w12 h12
      refine hK _ _ (.inr (.inl (HG.out _ _ (h12.sb)))) ?_
      clear hK h11
      refine bV 6 ak au (fun K hK=>?_)
      refine QS 3 1 8 au h12 ak ak (by first|exact aW (aW (aW aT))) aT rfl (acy 1) rfl (by unfold ints;rw [aaJ];exact Hsm.out) bF bF (ys:=ints [(x:Int)]) rfl ?_
      intro b' n' c' jF h13
      refine hK _ _ (.inl rfl) ?_
      clear hK h12
      refine rP 7 ?_ (y:=cO)
      refine bV 8 ak au (fun K hK=>?_)
      refine kP (cs':=(bW ⟨⟨r.key,r.nums.take (j+1)⟩,.slice (some ⟨b',0,none⟩) n' c'⟩).toArray) (h13.sb:Sat w0 jF (nV b8 r.key (r.nums.take j) (.slice na nn nc)::aC 3 1 (.slice (some ⟨b',0,none⟩) n' c') (ints (r.nums.take j)++ints [(x:Int)])::gY p rv3::jD b3 dX false k::aC 284 33 ov (vs.flatMap bW)::iy vs::F)) ak ak (VT r.key dO.out _ _ _ _) bZ (by show 32+1≤_;rw [jR _ dO.out];decide) au ah ?_
      intro kR gW
      refine hK _ _ (.inl rfl) ?_
      clear hK h13
      refine dD au ?_
      go_wp2_with fail
      go_roundg (k - (j+1))
      case measure=>have:=pV.out;omega
      case rel=>exact ⟨j+1,_,rv3,rfl,aiy pV.out,by first|rfl|go_num,IC.out,by rw [fB.out,show ints (r.nums.take j++[(x:Int)])=ints (r.nums.take j)++ints [(x:Int)] from aey ..];rw [← fB.out];exact gW⟩
     ·as_aux_lemma=>
      have c4:¬ (j:Int)<(k:Int):=oQ
      obtain rfl:j=k:=by omega
      have hln:=lH.out.len
      have e1:r.nums.drop j=[]:=aiz oQ
      have e2:r.nums.take j=r.nums:=aeb oQ
      rw [e1]at hRS
      rw [e2]at hSj
      have jJ:=uQ (show RS w0 F kL Y from hRS)
      have dO:=uQ lH.out.key
      have jA:=uQ KP.out
      obtain ⟨na,nn,nc,rfl,_,_⟩:=Sat.rd (hSj.pick aZ)
      clear hj hjl hRS hln e1 e2
      go_wp2_with (first
       |((with_reducible refine bD ⟨?_⟩);refine gI hSj ah aT Tryz.underlying284 rfl (by rw [jR _ dO.out];kernel_rfl) ?_)
       |((with_reducible refine ny ⟨?_⟩);refine nH (e:=284) (sz:=33) (dS:=56) (cs:=(bW ⟨r,.slice na nn nc⟩).toArray) au hSj ah rfl (jR ⟨r,.slice na nn nc⟩ dO.out) bF ?_;intro bN wN hN)
       |(with_reducible apply lg))
      refine ⟨nG (cs:=(bW ⟨r,.slice na nn nc⟩).toArray) 284 33 56 au hN ah ah (aW (aW (aW (aW (aW aT))))) aT (jR ⟨r,.slice na nn nc⟩ dO.out) bF Ae jA.out (by rw [jR ⟨r,.slice na nn nc⟩ dO.out];decide) bF rfl ?_⟩
      intro b' n' c2 kR gW
      clear hSj hN
      go_wp2_with fail
      go_roundg (rs.length - (i+1))
      case measure=>have:=bT.out;omega
      case rel=>
       refine ⟨i+1,vs++[⟨r,.slice na nn nc⟩],_,kL,rfl,aiy bT.out,rfl,by first|rfl|go_num,by rw [HY.out];exact jJ.out,⟨?_,?_⟩,?_⟩
       ·rw [aey,fB.out,kF.out.1];rfl
       ·intro x hx
        rcases ajk.1 hx with hx|hx
        ·exact kF.out.2 x hx
        ·rw [aiR.1 hx];exact dO.out
       ·rw [ajj,ai7,aks,afo]
        have h15:Sat w0 kR (aC 3 1 (.slice na nn nc) (ints r.nums)::iy vs::aC 284 33 (.slice (some ⟨b',0,none⟩) n' c2) (vs.flatMap bW++bW ⟨r,.slice na nn nc⟩)::gY p kL::jD b3 dX false j::F):=gW.sb
        exact (FZ (r:=⟨r,.slice na nn nc⟩) h15).sb
  ·as_aux_lemma=>
   have c3:¬ (i:Int)<(rs.length:Int):=oQ
   obtain rfl:i=rs.length:=by omega
   rw [ak9]at hRS
   rw [aiv]at hvs
   have jJ:=uQ (show RS w0 F sH T from hRS)
   have kF:=uQ hvs.1
   clear hi hlt hRS hvs
   go_wp2_with fail
   go_ret
   exact ⟨_,rfl,vs,kF.out,sH,jJ.out,hS.sb⟩
set_option maxRecDepth 20000 in
theorem ad2 (dX:ByteArray) (k:Nat) (hk:k≤3) (rs:List aS.Rw) (hok:∀ r∈rs,aS.uY k r) (hn:rs.length≤65536) (T:aj.Bs) (hr:RS w0 F rv (aS.jg true rs++T)) (h:Sat w0 w (gY p rv::F)) :
  Calls Tryz.prog 239 #[.agg (kX dX true k),ptr p,.int .i64 rs.length] w (aO fun v w'=>∃ (vs:List RV) (rv':Value),vs.map (·.x)=rs∧RS w0 F rv' T∧Sat w0 w' (aC 284 33 v (vs.flatMap bW)::iy vs::gY p rv'::F)):=by
 have Hr:=uQ hr;have bU:=uQ hok;have Hn:=uQ hn;have Hk:=uQ hk
 clear hr hok hn hk
 go_enter Tryz.func239,Tryz.ntmps239
 go_wp2_with (with_reducible apply eG)
 refine ⟨eH h ah ah ?_⟩
 intro b3 w3 h3
 replace h3:Sat w0 w3 (gY p rv::jD b3 dX true k::F):=h3.sb
 clear h
 go_wp2_with fail
 go_loopg [7,10] rs.length (fun g oq iq wr=>∃ (i:Nat) (vs:List RV) (ov pJ:Value),g=rs.length - i∧i≤rs.length∧ov=oq∧iq = .int .i64 i∧RS w0 F pJ (aS.jg true (rs.drop i)++T)∧(vs.map (·.x)=rs.take i∧∀ x∈vs,x.x.key.length=32) ∧
  Sat w0 wr (aC 284 33 ov (vs.flatMap bW)::iy vs::gY p pJ::jD b3 dX true k::F))
 case atStart=>exact ⟨0,[],_,rv,rfl,afm _,rfl,rfl,Hr.out,⟨rfl,fun r hr=>by cases hr⟩,Sat.fD.2 (Sat.emp.2 h3)⟩
 case round=>
  obtain ⟨i,vs,ov,sH,rfl,hi,rfl,rfl,hRS,hvs,hS⟩:=hrel
  clear h3
  by_cases hlt:i<rs.length
  ·as_aux_lemma=>
    have c3:(i:Int)<(rs.length:Int):=oQ
    have hwi:IntKind.i64.wrap ((i:Int)+1)=(i:Int)+1:=acI _ (by have:=Hn.out;omega)
    obtain ⟨r,hx⟩:∃ r,rs[i]?=some r:=⟨_,aak hlt⟩
    have lH:=uQ (bU.out r (abA hx))
    have fB:=uQ (aS.jS hx)
    have bT:=uQ hlt;have kF:=uQ hvs
    have KP:=uQ (show (vs.flatMap bW).length≤2147483648 from by
     rw [iE fun r hr=>kD r (hvs.2 r hr)]
     have:=aje List.length hvs.1
     rw [aaJ,acJ]at this
     have:=Hn.out
     omega)
    rw [aS.WO hx,adR]at hRS
    obtain ⟨Y,hY⟩:∃ Y,aS.jg true (rs.drop (i+1))++T=Y:=⟨_,rfl⟩
    rw [hY]at hRS
    have HY:=uQ hY
    clear hY
    have jJ:=uQ (show RS w0 F sH (r.key++(aS.iL r.nums++Y)) from by unfold aS.rowB at hRS;rw [ac3 rfl,adR]at hRS;exact hRS)
    clear hx hlt hi hvs hRS
    go_wp2_with (first
     |((with_reducible refine P7 ⟨?_⟩);refine yR ah Xi ?_)
     |(with_reducible apply eU))
    refine ⟨dU wZ hS rfl ?_⟩
    intro b8 w8 h8
    clear hS
    go_wp2_with (with_reducible apply bY)
    refine ⟨fE (bW sO).toArray h8 ah ah ah bZ au ah ?_⟩
    intro w9 h9
    clear h8
    have hby:=afQ (F:=nV b8 aj.zero32 [] (.slice none 0 0)::aC 284 33 ov (vs.flatMap bW)::iy vs::jD b3 dX true k::F) (by rw [aal,lH.out.key];omega) (jJ.out.more jH) (h9.sb:Sat w0 w9 (gY p sH::nV b8 aj.zero32 [] (.slice none 0 0)::aC 284 33 ov (vs.flatMap bW)::iy vs::jD b3 dX true k::F))
    have hkt:(r.key++(aS.iL r.nums++Y)).take 32=r.key:=List.take_left' lH.out.key
    have hkd:(r.key++(aS.iL r.nums++Y)).drop 32=aS.iL r.nums++Y:=List.drop_left' lH.out.key
    rw [hkt,hkd]at hby
    clear hkt hkd
    go_wp2_with ((with_reducible refine bD ⟨?_⟩);refine dV h9 ah (aW (aW (aW (aW aT)))) bF ak au ?_)
    refine hby.mono ?_
    rintro ee w10 ⟨v,rfl,pJ,rV,_,h10⟩
    have HR:=uQ (rV _ jJ.out)
    have dO:=uQ lH.out.key
    clear hby h9 rV jJ
    obtain ⟨a1,n1,c1,rfl,hn1,hc1,hl1⟩:=zo h10
    rw [dO.out]at hl1
    subst hl1
    obtain ⟨bk,off,rfl,hcell⟩:=nU (Sat.rd h10) (i:=0) (tV.2 ⟨r.key[0]'(by rw [dO.out];decide),aak _,rfl⟩)
    have hap:∀ w,(Instr.arrayAt 31 (.slice (some ⟨bk,off,none⟩) 32 c1)).run Tryz.prog w = .ok (.pointer (some ⟨bk,off,none⟩)) w:=fun w=>by
     unfold Instr.arrayAt
     simp only [adO,ajO Tryz.underlying31,ac2]
     rfl
    go_wp2_with (first
     |((with_reducible refine aae ⟨?_⟩);refine aiH ah hap ?_)
     |((with_reducible refine bD ⟨?_⟩);refine gU (b:=bk) (o:=off) (aA r.key) ah hcell Tryz.underlying31 rfl (by rw [aV,dO.out];kernel_rfl) ?_)
     |(with_reducible apply bY))
    refine ⟨eY (cs':=(bW ⟨⟨r.key,[]⟩,.slice none 0 0⟩).toArray) (h10.sb:Sat w0 w10 (nV b8 aj.zero32 [] (.slice none 0 0)::gY p pJ::jD b3 dX true k::aC 284 33 ov (vs.flatMap bW)::iy vs::F)) ah ah (afB r.key dO.out _) bZ (by show 0+(aA r.key).toArray.size≤_;rw [aaI,aV,dO.out];decide) (by show _=some (aA r.key).toArray.size;rw [aaI,aV,dO.out];kernel_rfl) (by show (aA r.key).toArray.toList.all _=true;rw [adM,qJ]) ?_⟩
    intro jd h11
    clear h10 hcell hap
    have h9:Sat w0 jd (nV b8 r.key (r.nums.take 0) (.slice none 0 0)::aC 3 1 (.slice none 0 0) (ints (r.nums.take 0))::gY p pJ::jD b3 dX true k::aC 284 33 ov (vs.flatMap bW)::iy vs::F):=by
     rw [ajD];exact (Sat.fD.2 h11).sb
    clear h11
    go_wp2_with ((with_reducible refine bD ⟨?_⟩);refine dV h9 ah (aW (aW (aW aT))) bF ak au ?_)
    go_loopg [22] k (fun g iq wr=>∃ (j:Nat) (nv kL:Value),g=k - j∧j≤k∧iq = .int .i64 j∧RS w0 F kL (aS.iL (r.nums.drop j)++Y)∧Sat w0 wr (nV b8 r.key (r.nums.take j) nv::aC 3 1 nv (ints (r.nums.take j))::gY p kL::jD b3 dX true k::aC 284 33 ov (vs.flatMap bW)::iy vs::F))
    case atStart=>exact ⟨0,_,pJ,rfl,afm _,rfl,HR.out,h9⟩
    case round=>
     obtain ⟨j,nv,kL,rfl,hj,rfl,hRS,hSj⟩:=hrel
     clear h9
     by_cases hjl:j<k
     ·as_aux_lemma=>
      have c4:(j:Int)<(k:Int):=oQ
      have Lc:IntKind.i64.wrap ((j:Int)+1)=(j:Int)+1:=acI _ (by have:=Hk.out;omega)
      obtain ⟨n,hn⟩:∃ n,r.nums[j]?=some n:=⟨_,aak (by rw [lH.out.len];exact hjl)⟩
      have hnb:=lH.out.num n (abA hn)
      obtain ⟨x,rfl⟩:∃ x:Nat,n=(x:Int):=⟨n.toNat,by omega⟩
      have hdr:aS.iL (r.nums.drop j)=aj.le x 4++aS.iL (r.nums.drop (j+1)):=by
       have:=aS.Vt hn
       rwa [alf]at this
      have fB:=uQ (aS.jS hn)
      rw [hdr,adR]at hRS
      have hnum:aj.num ((aj.le x 4++(aS.iL (r.nums.drop (j+1))++Y)).take 4)=x:=by
       rw [aS.Oe]
       have:=aS.Vo hnb
       rwa [alf]at this
      have Ci:=aS.EO x (aS.iL (r.nums.drop (j+1))++Y)
      have hw2:IntKind.i64.wrap (x:Int)=(x:Int):=acI _ oQ
      have hrn:=uQ (fun (w':World) (R:List aG) (hr':RS w0 R kL (aj.le x 4++(aS.iL (r.nums.drop (j+1))++Y))) (hw:Sat w0 w' (gY p kL::R))=>Gt (by rw [aal,aj.iH];omega) hr' hw)
      rw [hnum,Ci]at hrn
      have jJ:=uQ hRS;have pV:=uQ hjl
      have hkey:=lH.out.key
      have dO:=uQ hkey
      have Hsm:=uQ (show (r.nums.take j).length≤2147483648 from by rw [acJ];have:=Hk.out;omega)
      obtain ⟨na,nn,nc,rfl,hnl,_⟩:=Sat.rd (hSj.pick aZ)
      clear hn hnb hjl hj hdr hnum Ci hkey hnl hRS
      go_wp2_with fail
      have h10:=hSj.drew
      clear hSj
      refine dH [6,7,8] (fun w'=>w'.cell? ⟨b8,32,none⟩=some (.slice na nn nc)) au ?_
      have HG:=uQ (fun (w':World) (R:List aG) (hw:Sat w0 w' (nV b8 r.key (r.nums.take j) (.slice na nn nc)::R))=>show w'.cell? ⟨b8,32,none⟩=some (.slice na nn nc) from hw.cellP aT 32 (yM (x:=⟨r.key,r.nums.take j⟩) dO.out))
      have hG:=HG.out _ _ h10
      refine rP 0 ?_ (y:=cO)
      refine rt 1 (h:=?_)
      clear hG
      refine rP 2 ?_ (y:=aX)
      refine bV 3 ak au (fun K hK=>?_)
      (refine gy au ak ak ?_)
      refine (hrn.out _ _ (jJ.out.more jH) (h10.sb:Sat w0 _ (gY p kL::nV b8 r.key (r.nums.take j) (.slice na nn nc)::aC 3 1 (.slice na nn nc) (ints (r.nums.take j))::jD b3 dX true k::aC 284 33 ov (vs.flatMap bW)::iy vs::F))).mono ?_
      rintro ee jd ⟨v,rfl,rv3,rfl,qL,h11⟩
      refine hK _ _ (.inr (.inl (HG.out _ _ (h11.sb)))) ?_
      have IC:=uQ (qL _ jJ.out)
      clear hK h10 hrn qL jJ
      refine rP 4 ?_ (y:=(OH ak dh))
      refine bV 5 ak au (fun K hK=>?_)
      refine QU (e:=3) (sz:=1) (dS:=8) au h11 ak (cs:=#[.int .i64 (x:Int)]) rfl rfl aN ?_
      intro bN w12 h12
      refine hK _ _ (.inr (.inl (HG.out _ _ (h12.sb)))) ?_
      clear hK h11
      refine bV 6 ak au (fun K hK=>?_)
      refine QS 3 1 8 au h12 ak ak (by first|exact aW (aW (aW aT))) aT rfl (acy 1) rfl (by unfold ints;rw [aaJ];exact Hsm.out) bF bF (ys:=ints [(x:Int)]) rfl ?_
      intro b' n' c' jF h13
      refine hK _ _ (.inl rfl) ?_
      clear hK h12
      refine rP 7 ?_ (y:=cO)
      refine bV 8 ak au (fun K hK=>?_)
      refine kP (cs':=(bW ⟨⟨r.key,r.nums.take (j+1)⟩,.slice (some ⟨b',0,none⟩) n' c'⟩).toArray) (h13.sb:Sat w0 jF (nV b8 r.key (r.nums.take j) (.slice na nn nc)::aC 3 1 (.slice (some ⟨b',0,none⟩) n' c') (ints (r.nums.take j)++ints [(x:Int)])::gY p rv3::jD b3 dX true k::aC 284 33 ov (vs.flatMap bW)::iy vs::F)) ak ak (VT r.key dO.out _ _ _ _) bZ (by show 32+1≤_;rw [jR _ dO.out];decide) au ah ?_
      intro kR gW
      refine hK _ _ (.inl rfl) ?_
      clear hK h13
      refine dD au ?_
      go_wp2_with fail
      go_roundg (k - (j+1))
      case measure=>have:=pV.out;omega
      case rel=>exact ⟨j+1,_,rv3,rfl,aiy pV.out,by first|rfl|go_num,IC.out,by rw [fB.out,show ints (r.nums.take j++[(x:Int)])=ints (r.nums.take j)++ints [(x:Int)] from aey ..];rw [← fB.out];exact gW⟩
     ·as_aux_lemma=>
      have c4:¬ (j:Int)<(k:Int):=oQ
      obtain rfl:j=k:=by omega
      have hln:=lH.out.len
      have e1:r.nums.drop j=[]:=aiz oQ
      have e2:r.nums.take j=r.nums:=aeb oQ
      rw [e1]at hRS
      rw [e2]at hSj
      have jJ:=uQ (show RS w0 F kL Y from hRS)
      have dO:=uQ lH.out.key
      have jA:=uQ KP.out
      obtain ⟨na,nn,nc,rfl,_,_⟩:=Sat.rd (hSj.pick aZ)
      clear hj hjl hRS hln e1 e2
      go_wp2_with (first
       |((with_reducible refine bD ⟨?_⟩);refine gI hSj ah aT Tryz.underlying284 rfl (by rw [jR _ dO.out];kernel_rfl) ?_)
       |((with_reducible refine ny ⟨?_⟩);refine nH (e:=284) (sz:=33) (dS:=56) (cs:=(bW ⟨r,.slice na nn nc⟩).toArray) au hSj ah rfl (jR ⟨r,.slice na nn nc⟩ dO.out) bF ?_;intro bN wN hN)
       |(with_reducible apply lg))
      refine ⟨nG (cs:=(bW ⟨r,.slice na nn nc⟩).toArray) 284 33 56 au hN ah ah (aW (aW (aW (aW (aW aT))))) aT (jR ⟨r,.slice na nn nc⟩ dO.out) bF Ae jA.out (by rw [jR ⟨r,.slice na nn nc⟩ dO.out];decide) bF rfl ?_⟩
      intro b' n' c2 kR gW
      clear hSj hN
      go_wp2_with fail
      go_roundg (rs.length - (i+1))
      case measure=>have:=bT.out;omega
      case rel=>
       refine ⟨i+1,vs++[⟨r,.slice na nn nc⟩],_,kL,rfl,aiy bT.out,rfl,by first|rfl|go_num,by rw [HY.out];exact jJ.out,⟨?_,?_⟩,?_⟩
       ·rw [aey,fB.out,kF.out.1];rfl
       ·intro x hx
        rcases ajk.1 hx with hx|hx
        ·exact kF.out.2 x hx
        ·rw [aiR.1 hx];exact dO.out
       ·rw [ajj,ai7,aks,afo]
        have h15:Sat w0 kR (aC 3 1 (.slice na nn nc) (ints r.nums)::iy vs::aC 284 33 (.slice (some ⟨b',0,none⟩) n' c2) (vs.flatMap bW++bW ⟨r,.slice na nn nc⟩)::gY p kL::jD b3 dX true j::F):=gW.sb
        exact (FZ (r:=⟨r,.slice na nn nc⟩) h15).sb
  ·as_aux_lemma=>
   have c3:¬ (i:Int)<(rs.length:Int):=oQ
   obtain rfl:i=rs.length:=by omega
   rw [ak9]at hRS
   rw [aiv]at hvs
   have jJ:=uQ (show RS w0 F sH T from hRS)
   have kF:=uQ hvs.1
   clear hi hlt hRS hvs
   go_wp2_with fail
   go_ret
   exact ⟨_,rfl,vs,kF.out,sH,jJ.out,hS.sb⟩
end
end Go.Proofs.YtiglchkhikciiaaGreatDoor
