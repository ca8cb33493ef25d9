import Derived.Test.YtihngncbioofnaaGreatDoorJ3
import Derived.Laws.IdiomStrings
import Derived.Lib.BufferRead
set_option maxRecDepth 20000
namespace Go.Proofs.YtihngncbioofnaaGreatDoor
open Go Go.Sl Go.ay Go.MapKept Go.RowKit
theorem sQ {p : Prop} (h : p := by first | assumption | exact lT _ _ rfl | exact lT _ _ aQ | exact lT _ _ (Hid.out aQ)) : p := h
theorem pQ {p : Prop} (h : p := by first | (simp only [eu, Value.cells]; (try go_frame); first | done | rfl) | rfl) : p := h
theorem gQ {p : Prop} (h : p := by go_frame; first | done | rfl) : p := h
theorem fQ {p : Prop} (h : p := by first | rfl | assumption | exact Hid.out aQ) : p := h
theorem wQ {p : Prop} (h : p := by with_reducible rfl) : p := h
end Go.Proofs.YtihngncbioofnaaGreatDoor
set_option linter.unusedVariables false
set_option maxHeartbeats 128000000
namespace Go.ah
theorem P8 (l:Bs) (c:UInt8):num (l++[c])=num l+c.toNat * 256^l.length:=by
 induction l with
 |nil=>show c.toNat+256 * 0=0+c.toNat * 1;omega
 |cons d l ih=>
  show d.toNat+256 * num (l++[c])=d.toNat+256 * num l+c.toNat * 256^(l.length+1);rw [ih,aoq,Nat.mul_add,← Nat.mul_assoc,ahC 256 (c.toNat),Nat.mul_assoc,ahC 256 (256^l.length),← an9]
end Go.ah
namespace Go.Proofs.YtihngncbioofnaaGreatDoor
open Go Go.Sl Go.ay Go.MapKept Go.RowKit
section
variable {w0 w:World}{F R:List aH}{v bv dv x lv:Value}
theorem JR (l:Bs) (c:UInt8) (k:Nat) (hl:l.length=k) (hk:k<7):bits .or .u64 ((ah.num l:Nat):Int) ((c.toNat:Int) * ((256^k:Nat):Int))=((ah.num (l++[c]):Nat):Int):=by
 subst hl;have h1:=ah.yE l;have h2:=c.toNat_lt;have h3:256^l.length≤256^6:=anR aN oQ;have h4:c.toNat * 256^l.length≤255 * 256^6:=anv oQ h3;have h5:(256:Nat)^6=281474976710656:=by decide
 have e:(c.toNat:Int) * ((256^l.length:Nat):Int)=((c.toNat * 256^l.length:Nat):Int):=by rw [Int.natCast_mul]
 rw [e,u64_or_nat _ _ oQ oQ,ah.P8]
 congr 1
 have hp:(256:Nat)^l.length=2^(8 * l.length):=by rw [Nat.pow_mul]
 rw [hp]at h1 ⊢;have:=Nat.two_pow_add_eq_or_of_lt h1 c.toNat;rw [Nat.or_comm,ahC c.toNat,← this,aoh]
theorem aal {k:Nat}{l:Bs}{a:Option Addr}{n c:Nat} (h:bG 1 (.slice a n c) (aA l) w):bG 1 (.slice a (min n k) c) (aA (l.take k)) w:=by
 obtain ⟨a',n',c',he,hl,hx⟩:=h;cases he;rw [aX,adb]at hl;refine ⟨a,_,c,rfl,by rw [aX,acA];omega,fun j y hj=>?_⟩;have hj':(aA l)[j]?=some y:=by
  unfold aA at hj ⊢;rw [anw,adC]at hj;split at hj
  ·exact hj
  ·cases hj
 exact hx j y hj'
theorem agp (c0 c1 c2 c3:UInt8) (a:Option Addr) (c:Nat) (h:bG 1 (.slice a 4 c) (aA [c0,c1,c2,c3]) w) :
  Calls Tryz.prog 144 #[.slice a 4 c] w (aP fun v w'=>v = .tuple #[.int .u64 (ah.num [c0,c1,c2,c3]:Nat),.bool true]∧w=w'):=by
 obtain ⟨bk,off,rfl,hc⟩:=qU h (i:=0) rfl;have e0:w.cell? ⟨bk,off,none⟩=some (.int .u8 c0.toNat):=hc 0 _ rfl;have e1:w.cell? ⟨bk,off+1,none⟩=some (.int .u8 c1.toNat):=hc 1 _ rfl;have e2:w.cell? ⟨bk,off+2,none⟩=some (.int .u8 c2.toNat):=hc 2 _ rfl;have e3:w.cell? ⟨bk,off+3,none⟩=some (.int .u8 c3.toNat):=hc 3 _ rfl;have b0:=c0.toNat_lt;have b1:=c1.toNat_lt;have b2:=c2.toNat_lt;have b3:=c3.toNat_lt;clear hc h;go_enter Tryz.func144,Tryz.ntmps144;go_wp2_with fail
 go_loopg [17,4] 4 (fun g iq xq wr=>∃ i:Nat,g=4 - i∧i≤4∧iq = .int .i64 i∧xq = .int .u64 (ah.num ([c0,c1,c2,c3].take i):Nat)∧wr=w)
 case atStart=>exact ⟨0,rfl,by omega,rfl,rfl,rfl⟩
 case round=>
  obtain ⟨i,rfl,hi,rfl,rfl,rfl⟩:=hrel;by_cases h4:i<4
  ·have h0:i=0∨i=1∨i=2∨i=3:=by omega
   clear hi h4;rcases h0 with rfl|rfl|rfl|rfl
   ·have hq:bits .or .u64 ((ah.num []:Nat):Int) (c0.toNat:Int)=((ah.num [c0]:Nat):Int):=by
     have:=JR [] c0 0 rfl aN;simpa using this
    go_wp2_with fail
    go_roundg (4 - 1)
    case measure=>decide
    case rel=>exact ⟨1,rfl,by decide,by first|rfl|go_num,rfl,rfl⟩
   ·have hq:bits .or .u64 ((ah.num [c0]:Nat):Int) ((c1.toNat:Int) * 256)=((ah.num [c0,c1]:Nat):Int):=JR [c0] c1 1 rfl aN;go_wp2_with fail
    go_roundg (4 - 2)
    case measure=>decide
    case rel=>exact ⟨2,rfl,by decide,by first|rfl|go_num,rfl,rfl⟩
   ·have hq:bits .or .u64 ((ah.num [c0,c1]:Nat):Int) ((c2.toNat:Int) * 65536)=((ah.num [c0,c1,c2]:Nat):Int):=JR [c0,c1] c2 2 rfl aN;go_wp2_with fail
    go_roundg (4 - 3)
    case measure=>decide
    case rel=>exact ⟨3,rfl,by decide,by first|rfl|go_num,rfl,rfl⟩
   ·have hq:bits .or .u64 ((ah.num [c0,c1,c2]:Nat):Int) ((c3.toNat:Int) * 16777216)=((ah.num [c0,c1,c2,c3]:Nat):Int):=JR [c0,c1,c2] c3 3 rfl aN;go_wp2_with fail
    go_roundg (4 - 4)
    case measure=>decide
    case rel=>exact ⟨4,rfl,by decide,by first|rfl|go_num,rfl,rfl⟩
  ·obtain rfl:i=4:=by omega
   go_wp2
   go_ret2
   exact ⟨_,rfl,rfl,rfl⟩
theorem four {l:Bs} (h:l.length=4):∃ c0 c1 c2 c3,l=[c0,c1,c2,c3]:=by
 match l,h with
 |[c0,c1,c2,c3],_=>exact ⟨c0,c1,c2,c3,rfl⟩
theorem Xd (l:Bs) (hl:l.length=4) (a:Option Addr) (c:Nat) (h:bG 1 (.slice a 4 c) (aA l) w) :
  Calls Tryz.prog 144 #[.slice a 4 c] w (aP fun v w'=>v = .tuple #[.int .u64 (ah.num l:Nat),.bool true]∧w=w'):=by
 obtain ⟨c0,c1,c2,c3,rfl⟩:=four hl;exact agp c0 c1 c2 c3 a c h
theorem Zz (l:Bs) (hl:4≤l.length) (a:Option Addr) (n c:Nat) (hn:n≤c) (hc:c≤9223372036854775807) (h:bG 1 (.slice a n c) (aA l) w) :
  Calls Tryz.prog 93 #[.slice a n c] w (aP fun v w'=>v = .int .u32 (ah.num (l.take 4):Nat)∧w=w'):=by
 have hln:n=l.length:=by
  obtain ⟨_,_,_,he,hl',_⟩:=h;cases he;rw [aX,adb]at hl';exact hl'.symm
 have h4:=aal (k:=4) h;rw [show min n 4=4 by omega]at h4;have hg:=Xd (l.take 4) (by rw [acA];omega) a c h4;have hlt:=ah.yE (l.take 4);rw [acA,aoe hl]at hlt;have hb:(ah.num (l.take 4):Int)<4294967296:=oQ;have hc4:(4:Int)≤(c:Int):=oQ;generalize ah.num (l.take 4)=N at *
 clear hlt hln h4 h hl;have hw:IntKind.u32.wrap (N:Int)=(N:Int):=by rw [IntKind.wrap_u32];omega
 go_enter Tryz.func93,Tryz.ntmps93;go_wp2_with (go_at_call 144;refine hg.mono ?_;rintro e w1 ⟨v,rfl,rfl,rfl⟩);go_ret;exact ⟨_,rfl,rfl,rfl⟩
theorem af4 (t:UInt8) (n:Nat) (hn:n<4294967296) (w:World) :
  Calls Tryz.prog 94 #[.int .u8 t.toNat,.int .i64 n] w (aP fun v w'=>v = .bool (ah.fits t n)∧w=w'):=by
 have htl:=t.toNat_lt;by_cases h0:t=0
 ·subst h0;by_cases h1:41≤n
  ·by_cases h2:n≤16425
   ·have Hf:=uQ (show ah.fits 0 n=true by unfold ah.fits;rw [acr rfl];exact adt ⟨h1,h2⟩);have c1:(41:Int)≤(n:Int):=oQ;have c2:(n:Int)≤16425:=oQ;clear h1 h2;go_enter Tryz.func94,Tryz.ntmps94;go_wp2;go_ret;rw [Hf.out];exact ⟨_,rfl,rfl,rfl⟩
   ·have Hf:=uQ (show ah.fits 0 n=false by unfold ah.fits;rw [acr rfl];exact ac4 oQ);have c1:(41:Int)≤(n:Int):=oQ;have c2:decide ((n:Int)≤16425)=false:=ac4 oQ;clear h1 h2;go_enter Tryz.func94,Tryz.ntmps94;go_wp2;go_ret;rw [Hf.out];exact ⟨_,rfl,rfl,rfl⟩
  ·have Hf:=uQ (show ah.fits 0 n=false by unfold ah.fits;rw [acr rfl];exact ac4 oQ);have c1:decide ((41:Int)≤(n:Int))=false:=ac4 oQ;clear h1;go_enter Tryz.func94,Tryz.ntmps94;go_wp2;go_ret;rw [Hf.out];exact ⟨_,rfl,rfl,rfl⟩
 by_cases h1:t=1
 ·subst h1;have Hf:=uQ (show ah.fits 1 n=decide (n=41) by unfold ah.fits;rw [abA aN,acr rfl]);have He:=uQ (show ((n:Int)==41)=decide (n=41) by rw [anu,ai7,acF];omega);go_enter Tryz.func94,Tryz.ntmps94;go_wp2;go_ret;rw [Hf.out,← He.out];exact ⟨_,rfl,rfl,rfl⟩
 by_cases h2:t=2
 ·subst h2;have Hf:=uQ (show ah.fits 2 n=decide (n=9) by unfold ah.fits;rw [abA aN,abA aN,acr rfl]);have He:=uQ (show ((n:Int)==9)=decide (n=9) by rw [anu,ai7,acF];omega);go_enter Tryz.func94,Tryz.ntmps94;go_wp2;go_ret;rw [Hf.out,← He.out];exact ⟨_,rfl,rfl,rfl⟩
 ·have Hf:=uQ (show ah.fits t n=false by unfold ah.fits;rw [abA h0,abA h1,abA h2]);have g0:((t.toNat:Int)==0)=false:=by rw [acH];intro h;exact h0 (UInt8.toNat_inj.1 (by rw [show (0:UInt8).toNat=0 from rfl];omega))
  have g1:((t.toNat:Int)==1)=false:=by rw [acH];intro h;exact h1 (UInt8.toNat_inj.1 (by rw [show (1:UInt8).toNat=1 from rfl];omega))
  have g2:((t.toNat:Int)==2)=false:=by rw [acH];intro h;exact h2 (UInt8.toNat_inj.1 (by rw [show (2:UInt8).toNat=2 from rfl];omega))
  clear h0 h1 h2;generalize t.toNat=T at *
  go_enter Tryz.func94,Tryz.ntmps94;go_wp2;go_ret;rw [Hf.out];exact ⟨_,rfl,rfl,rfl⟩
end
end Go.Proofs.YtihngncbioofnaaGreatDoor
namespace Go.ah
def VP (long:Nat) (x:aG):aG:=⟨x.tag,x.key,x.data.take long⟩
def few (l:List aG) (n long:Nat):List aG:=(l.take n).map (VP long)
end Go.ah
namespace Go.Proofs.YtihngncbioofnaaGreatDoor
open Go Go.Sl Go.ay Go.MapKept Go.RowKit
section
variable {w0 w:World}{F R:List aH}{v bv dv x lv:Value}
theorem ajJ {k:Nat}{l:Bs}{a:Option Addr}{n c:Nat} (h:bG 1 (.slice a n c) (aA l) w):bG 1 (.slice a (min n k) c) (aA (l.take k)) w:=by
 obtain ⟨a',n',c',he,hl,hx⟩:=h;cases he;rw [aX,adb]at hl;refine ⟨a,_,c,rfl,by rw [aX,acA];omega,fun j y hj=>?_⟩;have hj':(aA l)[j]?=some y:=by
  unfold aA at hj ⊢;rw [anw,adC]at hj;split at hj
  ·exact hj
  ·cases hj
 exact hx j y hj'
theorem Wx (e:ah.aG) (a:Option Addr) (n c:Nat):(dU e (.slice a n c)).toList.all (·.oneCell')=true:=by
 unfold dU kX;rw [acW,aoI,ahh];have:(aA e.key).all (·.oneCell')=true:=aeD.2 (vS _);rw [this];rfl
end
end Go.Proofs.YtihngncbioofnaaGreatDoor
namespace Go.Seg
def Log.next (L:Log):Int:=match L.l.getLast? with
 |none=>0
 |some s=>s.1+1
end Go.Seg
namespace Go.Proofs.YtihngncbioofnaaGreatDoor
open Go Go.Sl Go.ay Go.MapKept Go.RowKit
section
variable {w0 w:World}{F:List aH}{v bv dv x lv:Value}{q p m K:Nat}{L:Seg.Log}{M:ay}
theorem KD (l:List (Int×Int)) (i:Nat) (s:Int×Int) (h:l[i]?=some s):(eF l)[2 * i]?=some (.int .i64 s.1)∧(eF l)[2 * i+1]?=some (.int .i64 s.2):=by
 induction l generalizing i with
 |nil=>simp at h
 |cons a l ih=>
  cases i with
  |zero=>
   obtain rfl:a=s:=by simpa using h
   exact ⟨rfl,rfl⟩
  |succ i=>
   have e1:eF (a::l) = .int .i64 a.1 :: .int .i64 a.2::eF l:=rfl;have h':l[i]?=some s:=by simpa using h
   rw [e1,show 2 * (i+1)=2 * i+1+1 by omega];exact ih i h'
theorem ahZ {s:Int×Int} (hl:L.l.getLast?=some s) (h:Sat w0 w (mF p m L lv::aB 105 2 lv (eF L.l)::F)) :
  ∃ bk n c,lv = .slice (some ⟨bk,0,none⟩) (n+1) c∧L.l.length=n+1∧w.cell? ⟨bk,2 * n,none⟩=some (.int .i64 s.1)∧w.cell? ⟨bk,2 * n+1,none⟩=some (.int .i64 s.2):=by
 rw [adv]at hl;have hlt:=(abW.1 hl).1;obtain ⟨n,hn⟩:∃ n,L.l.length=n+1:=⟨L.l.length - 1,by omega⟩;rw [hn,Nat.add_sub_cancel]at hl;obtain ⟨h1,h2⟩:=KD _ _ _ hl;have hS:Sat w0 w (aB 105 2 lv (eF L.l)::mF p m L lv::F):=h.aY;rcases hS.kP with ⟨rfl,hx,_⟩|⟨b,n',cap,cs,rfl,hll,hn',hc,hcm,htk,hp⟩
 ·rw [hx]at h1;simp at h1
 ·rw [kT,hn]at hll;obtain rfl:n'=n+1:=by omega
  exact ⟨b,n,cap,rfl,hn,hp.cellAt _ _ (mZ htk h1),hp.cellAt _ _ (mZ htk h2)⟩
theorem alH (hlen:L.l.length≤1048576) (hb:∀ s∈L.l,0≤s.1∧s.1<1048576) (h:Sat w0 w (mF p m L lv::aB 105 2 lv (eF L.l)::F)) :
  Calls Tryz.prog 171 #[ptr p] w (aP fun v w'=>v = .int .i64 L.next∧Sat w0 w' (mF p m L lv::aB 105 2 lv (eF L.l)::F)):=by
 cases hl:L.l.getLast? with
 |none=>
  have hnil:=ank.1 hl;refine (aiD hnil h).mono ?_;rintro e w1 ⟨v,rfl,rfl,rfl⟩;exact ⟨_,rfl,by unfold Seg.Log.next;rw [hl],h⟩
 |some s=>
  have bF:=uQ (show L.next=s.1+1 by unfold Seg.Log.next;rw [hl]);have hs:=hb s (agv hl);obtain ⟨bk,n,c,rfl,hn,c1,c2'⟩:=ahZ hl h;have hok:=tu h;have c2:=h.cellAt 2 _ rfl;have hS:=h.drew;have c1':w.drew.cell? ⟨bk,n * 2,none⟩=some (.int .i64 s.1):=by rw [ahC];exact c1
  have hwn:IntKind.i64.wrap (n:Int)=(n:Int):=by rw [adL];omega
  have hn0:(n:Int)<(n:Int)+1:=oQ;have cd:w.drew.cell? ⟨p,2,none⟩=some (.slice (some ⟨bk,0,none⟩) (n+1) c):=c2;have hw1:IntKind.i64.wrap (s.1+1)=s.1+1:=by rw [adL];omega
  have Hs:=uQ hs;have Hn:=uQ hn;clear hs hn hb hlen hl c2';go_enter Tryz.func171,Tryz.ntmps171;go_wp2_with (go_at_call 45;refine hok.mono ?_;rintro e w1 ⟨v,rfl,rfl,rfl⟩)
  go_region
  go_wp2;go_ret;exact ⟨_,rfl,by rw [bF.out];rfl,hS⟩
end
end Go.Proofs.YtihngncbioofnaaGreatDoor
namespace Go.Seg
open Go.ay
structure aU where
 seg:Int
 at_:Int
 size:Int
def aU.zero:aU:=⟨0,0,0⟩
def mag:Bs:=[72,79,65,82,68,83,69,71]
def Log.grow (L:Log) (M:ay) (b:Bs):(Log×ay)×aU×Int:=
 match L.l.getLast? with
 |none=>((L,M),aU.zero,0)
 |some s=>
  if (M.append (name s.1) b).2=0 then (({ L with l:=L.l.dropLast++[(s.1,s.2+(b.length:Int))] },(M.append (name s.1) b).1),⟨s.1,s.2,b.length⟩,0)
  else ((L,(M.append (name s.1) b).1),aU.zero,(M.append (name s.1) b).2)
def Log.shut (L:Log) (M:ay):(Log×ay)×Int:=
 match L.l.getLast? with
 |none=>((L,M),0)
 |some s=>
  if L.on=true then
   if (M.sync (name s.1)).2=0 then (({ L with on:=false },(M.sync (name s.1)).1),0)
   else ((L,(M.sync (name s.1)).1),(M.sync (name s.1)).2)
  else ((L,M),0)
def Log.jw (L:Log) (M:ay) (b:Bs):(Log×ay)×aU×Int:=
 if 1048576≤L.next then ((L,M),aU.zero,16)
 else if (M.create (name L.next)).2≠0 then ((L,(M.create (name L.next)).1),aU.zero,(M.create (name L.next)).2)
 else if ((M.create (name L.next)).1.append (name L.next) (mag++b)).2=0 then
  (({ L with l:=L.l++[(L.next,8+(b.length:Int))],on:=true,fresh:=L.fresh+1 },((M.create (name L.next)).1.append (name L.next) (mag++b)).1),⟨L.next,8,b.length⟩,0)
 else if ((M.create (name L.next)).1.append (name L.next) (mag++b)).2=11 then
  ((L,(((M.create (name L.next)).1.append (name L.next) (mag++b)).1.remove (name L.next)).1),aU.zero,
   if (((M.create (name L.next)).1.append (name L.next) (mag++b)).1.remove (name L.next)).2=0 then 11 else (((M.create (name L.next)).1.append (name L.next) (mag++b)).1.remove (name L.next)).2)
 else ((L,((M.create (name L.next)).1.append (name L.next) (mag++b)).1),aU.zero,((M.create (name L.next)).1.append (name L.next) (mag++b)).2)
def Log.begin (L:Log) (M:ay) (b:Bs):(Log×ay)×aU×Int:=
 if (L.shut M).2=0 then (L.shut M).1.1.jw (L.shut M).1.2 b else ((L.shut M).1,aU.zero,(L.shut M).2)
def Log.fits (L:Log) (n:Nat):Bool:=L.on && decide ((L.l.getLast?.map (·.2)).getD 0+n≤L.limit)
def Log.append (L:Log) (M:ay) (x:ah.aG):(Log×ay)×aU×Int:=
 if (ah.encode x).2≠0 then ((L,M),aU.zero,(ah.encode x).2)
 else if L.fits (ah.encode x).1.length=true then L.grow M (ah.encode x).1 else L.begin M (ah.encode x).1
def bf:ah.aG:=⟨2,ah.zero32,[]⟩
def Log.commit (L:Log) (M:ay):(Log×ay)×Int×Int:=
 if (L.append M bf).2.2≠0 then ((L.append M bf).1,0,(L.append M bf).2.2)
 else if ((L.append M bf).1.2.sync (name (L.append M bf).2.1.seg)).2≠0 then (((L.append M bf).1.1,((L.append M bf).1.2.sync (name (L.append M bf).2.1.seg)).1),0,((L.append M bf).1.2.sync (name (L.append M bf).2.1.seg)).2)
 else if (((L.append M bf).1.2.sync (name (L.append M bf).2.1.seg)).1.dR).2≠0 then (((L.append M bf).1.1,(((L.append M bf).1.2.sync (name (L.append M bf).2.1.seg)).1.dR).1),0,(((L.append M bf).1.2.sync (name (L.append M bf).2.1.seg)).1.dR).2)
 else (({ (L.append M bf).1.1 with on:=false,fresh:=0 },(((L.append M bf).1.2.sync (name (L.append M bf).2.1.seg)).1.dR).1),(L.append M bf).2.1.seg,0)
def Log.at (L:Log) (n:Int):Option Nat:=L.l.findIdx? (fun s=>s.1==n)
def Log.find (L:Log) (n:Int):Int:=match L.at n with
 |some i=>i
 |none=> -1
def Log.without (L:Log) (i:Nat):Log:=
 ⟨L.limit,L.l.eraseIdx i,if i+1=L.l.length then false else L.on,if (L.l.length:Int) - L.fresh≤i then L.fresh - 1 else L.fresh⟩
def Log.remove (L:Log) (M:ay) (n:Int):(Log×ay)×Int:=
 match L.at n with
 |none=>((L,M),9)
 |some i=>if (M.remove (name n)).2=0 then ((L.without i,(M.remove (name n)).1),0) else ((L,(M.remove (name n)).1),(M.remove (name n)).2)
def Log.size (L:Log) (n:Int):Int:=match L.at n with
 |none=>0
 |some i=>(L.l.getD i (0,0)).2
def Log.bytes (L:Log) (M:ay) (n:Int):Bs×Int:=match L.at n with
 |none=>([],9)
 |some _=>M.all (name n)
structure Log.Ok (L:Log):Prop where
 limit:128≤L.limit∧L.limit≤1048576
 rise:(L.l.map (·.1)).Pairwise (· < ·)
 nums:∀ s∈L.l,0≤s.1∧s.1<1048576
 sizes:∀ s∈L.l,0≤s.2∧s.2≤33554432
 fresh:0≤L.fresh∧L.fresh≤L.l.length
 on:L.on=true→L.l≠[]
theorem Qy:∀ (l:List Int) (a:Int),l.Pairwise (· < ·)→(∀ x∈l,a≤x)→(∀ x∈l,x<1048576)→a≤1048576→(l.length:Int)≤1048576 - a
 |[],a,_,_,_,h=>by simp;omega
 |x::l,a,hp,h1,h2,h3=>by
  obtain ⟨hx,hp'⟩:=aeA.1 hp;have e1:=h1 x (.head _);have e2:=h2 x (.head _);have:=Qy l (x+1) hp' (fun y hy=>by have:=hx y hy;omega) (fun y hy=>h2 y (.tail _ hy)) oQ;rw [ac5];omega
theorem Log.Ok.len {L:Log} (h:L.Ok):L.l.length≤1048576:=by
 have:=Qy (L.l.map (·.1)) 0 h.rise (by intro x hx;obtain ⟨s,hs,rfl⟩:=abZ.1 hx;exact (h.nums s hs).1) (by intro x hx;obtain ⟨s,hs,rfl⟩:=abZ.1 hx;exact (h.nums s hs).2) oQ;rw [abl]at this;omega
theorem Log.Ok.shut {L:Log} (h:L.Ok) (M:ay):(L.shut M).1.1.Ok:=by
 unfold Log.shut;split;· exact h
 split
 ·split
  ·exact ⟨h.limit,h.rise,h.nums,h.sizes,h.fresh,fun hh=>by cases hh⟩
  ·exact h
 ·exact h
theorem FU {L:Log}{s:Int×Int} (h:L.l.getLast?=some s):L.l=L.l.dropLast++[s]:=by
 have hne:L.l≠[]:=by intro e;rw [e]at h;cases h
 have h2:=List.dropLast_concat_getLast hne;rw [List.getLast?_eq_some_getLast hne]at h;cases h;exact h2.symm
theorem Pe {L:Log}{s:Int×Int} (h:L.l.getLast?=some s):L.l.length=L.l.dropLast.length+1:=by
 have:=adu List.length (FU h);rw [aaK,ac7]at this;exact this
theorem Log.Ok.next {L:Log} (h:L.Ok):0≤L.next∧L.next≤1048576∧∀ s∈L.l,s.1<L.next:=by
 unfold Log.next;cases hl:L.l.getLast? with
 |none=>
  have:=ank.1 hl;simp [this]
 |some s=>
  have hs:=h.nums s (agv hl);refine ⟨by simp only;omega,by simp only;omega,?_⟩;have e:=FU hl;have hr:=h.rise;rw [e,acI,ahE]at hr;intro t ht;rw [e]at ht;rcases ac3.1 ht with ht|ht
  ·have:=hr.2.2 t.1 (abZ.2 ⟨t,ht,rfl⟩) s.1 (by simp);simp only;omega
  ·rw [acO.1 ht];simp only;omega
theorem Log.Ok.snoc {L:Log} (h:L.Ok) (hn:L.next<1048576) (z:Nat) (hz:z≤16777216):({ L with l:=L.l++[(L.next,8+(z:Int))],on:=true,fresh:=L.fresh+1 }:Log).Ok:=by
 obtain ⟨n1,n2,n3⟩:=h.next;have hf:=h.fresh;refine ⟨h.limit,?_,?_,?_,⟨by simp only;omega,by simp only [aaK,ac7];omega⟩,fun _=>by simp⟩
 ·simp only;rw [acI,ahE];refine ⟨h.rise,by simp,?_⟩;intro a ha b hb;obtain ⟨s,hs,rfl⟩:=abZ.1 ha;simp only [acS,adw,acO]at hb;subst hb;exact n3 s hs
 ·intro s hs;rcases ac3.1 hs with hs|hs
  ·exact h.nums s hs
  ·rw [acO.1 hs];exact ⟨n1,hn⟩
 ·intro s hs;rcases ac3.1 hs with hs|hs
  ·exact h.sizes s hs
  ·rw [acO.1 hs];exact ⟨by simp only;omega,by simp only;omega⟩
theorem Log.Ok.jw {L:Log} (h:L.Ok) (M:ay) (b:Bs) (hb:b.length≤16777216):(L.jw M b).1.1.Ok:=by
 unfold Log.jw;split;· exact h
 rename_i hn;split;· exact h
 split;· exact h.snoc oQ _ hb
 split;· exact h
 exact h
theorem Log.Ok.begin {L:Log} (h:L.Ok) (M:ay) (b:Bs) (hb:b.length≤16777216):(L.begin M b).1.1.Ok:=by
 unfold Log.begin;split
 ·exact (h.shut M).jw _ _ hb
 ·exact h.shut M
theorem Log.Ok.grow {L:Log} (h:L.Ok) (M:ay) (b:Bs) (hf:L.fits b.length=true):(L.grow M b).1.1.Ok:=by
 unfold Log.grow;split;· exact h
 rename_i s hl;split
 ·have e:=FU hl;have hr:=h.rise;have hlen:L.l.length=L.l.dropLast.length+1:=Pe hl;unfold Log.fits at hf;rw [adg,acF,hl]at hf;have hlim:=h.limit;refine ⟨h.limit,?_,?_,?_,?_,fun _=>by simp⟩
  ·rw [e]at hr;simpa using hr
  ·intro t ht;rcases ac3.1 ht with ht|ht
   ·exact h.nums t (by rw [e];exact List.mem_append_left _ ht)
   ·rw [acO.1 ht];exact h.nums s (agv hl)
  ·intro t ht;rcases ac3.1 ht with ht|ht
   ·exact h.sizes t (by rw [e];exact List.mem_append_left _ ht)
   ·rw [acO.1 ht];have:=h.sizes s (agv hl);have h2:s.2+(b.length:Int)≤L.limit:=hf.2;simp only;omega
  ·have:=h.fresh;simp only [aaK,ac7];omega
 ·exact h
theorem encode_len (x:ah.aG) (hk:x.key.length=32):(ah.encode x).1.length≤16425:=by
 unfold ah.encode;split;· simp
 rename_i hc;have hd:x.data.length≤16384:=by
  unfold ah.check at hc
  repeat' split at hc
  all_goals first|omega|simp at hc
 unfold ah.body;simp only [aaK,ah.kJ,ac7];split
 ·simp;omega
 ·omega
theorem Log.Ok.append {L:Log} (h:L.Ok) (M:ay) (x:ah.aG) (hk:x.key.length=32):(L.append M x).1.1.Ok:=by
 have hl:=encode_len x hk;unfold Log.append;split;· exact h
 split
 ·rename_i hf;exact h.grow M _ hf
 ·exact h.begin M _ oQ
theorem Log.Ok.commit {L:Log} (h:L.Ok) (M:ay):(L.commit M).1.1.Ok:=by
 have h1:=h.append M bf rfl;unfold Log.commit;split;· exact h1
 split;· exact h1
 split;· exact h1
 exact ⟨h1.limit,h1.rise,h1.nums,h1.sizes,⟨an2 _,by simp⟩,fun hh=>by cases hh⟩
theorem Log.Ok.without {L:Log} (h:L.Ok) (i:Nat) (hi:i<L.l.length):(L.without i).Ok:=by
 have hsub:(L.l.eraseIdx i).Sublist L.l:=List.eraseIdx_sublist _ _;have hlen:(L.l.eraseIdx i).length=L.l.length - 1:=List.length_eraseIdx_of_lt hi;have hf:=h.fresh;refine ⟨h.limit,h.rise.sublist (hsub.map _),fun s hs=>h.nums s (hsub.mem hs),fun s hs=>h.sizes s (hsub.mem hs),?_,?_⟩
 ·unfold Log.without;simp only [hlen];split <;> omega
 ·unfold Log.without;simp only;split
  ·intro hh;cases hh
  ·intro _ e;have:=adu List.length e;rw [hlen]at this;simp at this;omega
theorem Log.Ce {L:Log}{n:Int}{i:Nat} (h:L.at n=some i):i<L.l.length∧∃ s,L.l[i]?=some s∧s.1=n:=by
 unfold Log.at at h;rw [List.findIdx?_eq_some_iff_getElem]at h;obtain ⟨h1,h2,_⟩:=h;exact ⟨h1,_,aaI h1,by simpa using h2⟩
theorem Log.Ok.remove {L:Log} (h:L.Ok) (M:ay) (n:Int):(L.remove M n).1.1.Ok:=by
 unfold Log.remove;split;· exact h
 rename_i i hi;split
 ·exact h.without i (Log.Ce hi).1
 ·exact h
theorem Log.Ok.Nk {L:Log} (h:L.Ok){s:Int×Int} (hl:L.l.getLast?=some s):L.at s.1=some (L.l.length - 1):=by
 have e:=FU hl;have hlen:L.l.length=L.l.dropLast.length+1:=Pe hl;have hr:=h.rise;rw [e,acI,ahE]at hr;unfold Log.at;rw [List.findIdx?_eq_some_iff_getElem];refine ⟨by omega,?_,?_⟩
 ·have:L.l[L.l.length - 1]?=some s:=by rw [← adv];exact hl
  obtain ⟨h1,h2⟩:=abW.1 this;rw [h2];simp
 ·intro j hj;have hj':j<L.l.dropLast.length:=oQ;have hx:L.l[j]'oQ=L.l.dropLast[j]:=by rw [List.getElem_dropLast]
  have h3:(L.l.dropLast[j]).1<s.1:=hr.2.2 (L.l.dropLast[j]).1 (abZ.2 ⟨_,aot hj',rfl⟩) s.1 (by simp);rw [hx];rw [aov,acH];omega
def Log.back:Nat→Log→ay→(Log×ay)×Int
 |0,L,M=>(({ L with on:=false },M),0)
 |k+1,L,M=>
  match L.l.getLast? with
  |none=>(({ L with on:=false },M),0)
  |some s=>if (L.remove M s.1).2=0 then Log.back k (L.remove M s.1).1.1 (L.remove M s.1).1.2 else L.remove M s.1
def Log.rollback (L:Log) (M:ay):(Log×ay)×Int:=L.back L.fresh.toNat M
theorem Log.Ok.abd {L:Log} (h:L.Ok):({ L with on:=false }:Log).Ok:=⟨h.limit,h.rise,h.nums,h.sizes,h.fresh,fun hh=>by cases hh⟩
end Go.Seg
namespace Go.Proofs.YtihngncbioofnaaGreatDoor
open Go Go.Sl Go.ay Go.MapKept Go.RowKit
section
variable {w0 w:World}{L L' R:List aH}{b:Nat}{ops:Array Oper}{rest:List Oper}{a:Act}{Q:Exit→Act→World→Prop}
variable {dst:Option Tmp}{t T:TypeId}{pos:String}{after:Array Edge}{x y:Operand}{cs:Array Value}{v:Value}{e:ah.aG}{da:Option Addr}{dn dc:Nat}
theorem akC (tag:Int) (w:World):(Instr.build 52 #[(0,.int .i64 tag)]).run Tryz.prog w = .ok (.agg (dU ⟨tag,ah.zero32,[]⟩ (.slice none 0 0))) w:=by
 have hz:(dU ah.zeroE (.slice none 0 0)).size=34:=lT _ _ rfl
 have h:=aod (P:=Tryz.prog) [(0,.int .i64 tag)] JU BN (by
  intro p hp;rw [acO]at hp;subst hp;have hzz:wP.cells.size=34:=hz;rw [hzz];exact ⟨0,rfl,by show 0+1≤34;omega⟩) w
 exact h
theorem ab6 {tag:Int} (hx:a.eval x = .int .i64 tag) (h:wpList Tryz.prog ops Q rest (a.put dst (.agg (dU ⟨tag,ah.zero32,[]⟩ (.slice none 0 0)))) w):wpList Tryz.prog ops Q (⟨dst,.build 52 #[(0,x)],t,pos,after,none⟩::rest) a w:=
 aeB rfl fun _ hK=>by
  unfold Oper.wp execOp;simp only [aes,acS,adw,hx,acN,akC,acB,ac1];exact hK _ _ h
theorem yZ (h:wpList Tryz.prog ops Q rest (a.put dst (.agg (dU ah.zeroE (.slice none 0 0)))) w):wpList Tryz.prog ops Q (⟨dst,.build 52 #[],t,pos,after,none⟩::rest) a w:=
 aeB rfl fun _ hK=>by
  unfold Oper.wp execOp;simp only [aes,adw,acN,ak3,acB,ac1];exact hK _ _ h
theorem U9 (h:Stop (wpList Tryz.prog ops Q (⟨dst,.build 52 #[(0,x)],t,pos,after,none⟩::rest) a w)):wpList Tryz.prog ops Q (⟨dst,.build 52 #[(0,x)],t,pos,after,none⟩::rest) a w:=h.out
theorem xH (h:Stop (wpList Tryz.prog ops Q (⟨dst,.build 52 #[],t,pos,after,none⟩::rest) a w)):wpList Tryz.prog ops Q (⟨dst,.build 52 #[],t,pos,after,none⟩::rest) a w:=h.out
theorem amV {P:Program}{ty:TypeId}{z:Operand}{vx vy vz:Value} (hx:a.eval x=vx) (hy:a.eval y=vy) (hz:a.eval z=vz) (hr:∀ w,(Instr.sliceAt ty vx (some vy) (some vz) none).run P w = .ok v w)
  (h:wpList P ops Q rest (a.put dst v) w):wpList P ops Q (⟨dst,.slice ty x (some y) (some z) none,t,pos,after,none⟩::rest) a w:=
 aeB rfl fun _ hK=>by
  unfold Oper.wp execOp;simp only [hx,hy,hz,ahf,an5,acN,hr,acB,ac1];exact hK _ _ h
theorem aec {P:Program}{ty:TypeId}{z:Operand} (h:Stop (wpList P ops Q (⟨dst,.slice ty x (some y) (some z) none,t,pos,after,none⟩::rest) a w)):wpList P ops Q (⟨dst,.slice ty x (some y) (some z) none,t,pos,after,none⟩::rest) a w:=h.out
theorem akz (ad:Addr) (c:Nat) (w:World):(Instr.arrayAt 50 (.slice (some ad) 32 c)).run Tryz.prog w = .ok (.pointer (some ad)) w:=by
 simp [Instr.arrayAt,agK (P:=Tryz.prog) Tryz.underlying50]
theorem ajz {e:ah.aG}{dv:Value} (hk:e.key.length=32) (key:Bs) (hk2:key.length=32):eu (dU e dv) 1 (aA key)=dU ⟨e.tag,key,e.data⟩ dv:=by
 apply qR;have hz:=lT e dv hk;have h1:(aA key).length=32:=by rw [aX,hk2]
 have h2:(aA e.key).length=32:=by rw [aX,hk]
 rw [lg _ _ _ oQ];unfold dU kX;rw [acW,acW,h1,show 1+32=32+1 by omega,aop,List.take_succ_cons,adH,anf oQ,adp oQ];simp
theorem ajy {e:ah.aG}{dv:Value} (hk:e.key.length=32) (data:Bs) (V7:Value):eu (dU e dv) 33 [V7]=dU ⟨e.tag,e.key,data⟩ V7:=by
 apply qR;have hz:=lT e dv hk;have h2:(aA e.key).length=32:=by rw [aX,hk]
 rw [lg _ _ _ (by simp;omega)];unfold dU kX;rw [acW,acW,ac7,show 33+1=33+1 from rfl,aop,List.take_succ_cons,ado oQ,acX oQ,adp (by simp;omega)];simp
theorem ahu:(Tryz.prog.info? 50).map (·.size)=some 32:=by kernel_rfl
theorem ahw:(Tryz.prog.info? 39).map (·.size)=some 1:=by kernel_rfl
theorem amX {dv:Value}{key:Bs} (hs:Sat w0 w L) (hx:a.eval x = .pointer (some ⟨b,1,none⟩)) (hy:a.eval y = .agg (aA key).toArray) (hk:e.key.length=32) (hk2:key.length=32) (u:oI (pt b (.cells (dU e dv) T (0,0))) (pt b (.cells (dU ⟨e.tag,key,e.data⟩ dv) T (0,0))) L L')
  (hK:∀ w',Sat w0 w' L'→wpList Tryz.prog ops Q rest (a.put dst undef) w'):wpList Tryz.prog ops Q (⟨dst,.store 50 x y,t,pos,after,none⟩::rest) a w:=by
 obtain ⟨R',h2,h3⟩:=u;have hz:=lT e dv hk;have hb:(aA key).toArray.size=32:=by simp [aA,hk2]
 refine GV (w0:=w0) rfl 50 x y rfl 1 (.agg (aA key).toArray) hx hy (show 1+(aA key).toArray.size≤(dU e dv).size by omega) (show _=some (aA key).toArray.size by rw [hb];exact ahu) ?_ (hs.perm h2) fun w' hS=>hK w' ?_
 ·show (aA key).toArray.all _=true;rw [← Array.all_toList];exact aeD.2 (vS _)
 ·have he:eu (dU e dv) 1 (Value.agg (aA key).toArray).cells.toList=dU ⟨e.tag,key,e.data⟩ dv:=ajz hk key hk2;rw [he]at hS;exact hS.perm h3.symm
theorem amW {dv:Value}{data:Bs} (hs:Sat w0 w L) (hx:a.eval x = .pointer (some ⟨b,33,none⟩)) (hy:a.eval y = .slice da dn dc) (hk:e.key.length=32) (u:oI (pt b (.cells (dU e dv) T (0,0))) (pt b (.cells (dU ⟨e.tag,e.key,data⟩ (.slice da dn dc)) T (0,0))) L L')
  (hK:∀ w',Sat w0 w' L'→wpList Tryz.prog ops Q rest (a.put dst undef) w'):wpList Tryz.prog ops Q (⟨dst,.store 39 x y,t,pos,after,none⟩::rest) a w:=by
 obtain ⟨R',h2,h3⟩:=u;have hz:=lT e dv hk;refine GV (w0:=w0) rfl 39 x y rfl 33 (.slice da dn dc) hx hy (show 33+1≤(dU e dv).size by omega) ahw (by simp [Value.cells,Value.oneCell']) (hs.perm h2) fun w' hS=>hK w' ?_;have he:eu (dU e dv) 33 (Value.slice da dn dc).cells.toList=dU ⟨e.tag,e.key,data⟩ (.slice da dn dc):=ajy hk data _;rw [he]at hS;exact hS.perm h3.symm
theorem Dw {fn:Func}{p u q:Tmp}{tmps:Array Value} (hf:fn.results=#[.cell p 52,.tmp u,.tmp q]) (hs:Sat w0 w L) (hp:tmps.getD p undef = .pointer (some ⟨b,0,none⟩)) (k:Pick (pt b (.cells (dU e (.slice da dn dc)) T (0,0))) L R) (hk:e.key.length=32) :
  (results fn tmps).run Tryz.prog w = .ok (.tuple #[.agg (dU e (.slice da dn dc)),tmps.getD u undef,tmps.getD q undef]) w:=by
 have hl:=run_loadVar_row (P:=Tryz.prog) w b T 52 (dU e (.slice da dn dc)) (0,0) _ (hs.pick k).at Tryz.underlying52 aj (by rw [lT e _ hk];exact CY);have hp':tmps[p]?.getD undef = .pointer (some ⟨b,0,none⟩):=by simpa using hp
 simp [results,hf,hp',asAddr,hl,Result.andThen]
end
section
variable {w0 w:World}{F R:List aH}{v bv dv x lv:Value}
theorem aam {l:Bs}{bk off n c:Nat} (h:bG 1 (.slice (some ⟨bk,off,none⟩) n c) (aA l) w) (i j c':Nat) (hij:i≤j) (hj:j≤l.length):bG 1 (.slice (some ⟨bk,off+i,none⟩) (j - i) c') (aA ((l.take j).drop i)) w:=by
 obtain ⟨a',n',c'',he,hl,hx⟩:=h;cases he;refine ⟨_,_,_,rfl,by rw [aX,acL,acA];omega,fun k y hk=>⟨_,rfl,?_⟩⟩;have hk':(aA l)[i+k]?=some y:=by
  unfold aA at hk ⊢;rw [List.map_drop,anw,anQ,adC]at hk;split at hk
  ·exact hk
  ·cases hk
 obtain ⟨b',hb',hc⟩:=hx _ _ hk';cases hb';rw [Addr.add_mid]at hc ⊢;rw [an9];exact hc
end
section
variable {w0 w:World}{F R:List aH}{v bv dv x lv:Value}
theorem Xb (l:Bs) (hr:Ro w0 F (bG 1 bv (aA l))) (hcap:lQ bv) (hH:Ro w0 F Half) (hl:l.length≤1099511627776) (h:Sat w0 w F) :
  Calls Tryz.prog 50 #[bv] w (aP fun v w'=>∃ da dc,v = .tuple #[.agg (dU (ah.read l).1 (.slice da (ah.read l).1.data.length dc)),.int .i64 (ah.read l).2.1,errno (ah.read l).2.2]∧Sat w0 w' (bK (.slice da (ah.read l).1.data.length dc) (ah.read l).1.data::F)):=by
 obtain ⟨ba,bn,bc,rfl,hbn,hbc⟩:=hcap;have hln:bn=l.length:=by
  obtain ⟨_,_,_,he,hl',_⟩:=hr w h;cases he;rw [aX,adb]at hl';exact hl'.symm
 subst hln;by_cases h9:l.length<9
 ·have Hf:=uQ (show ah.read l=(ah.zeroE,0,3) by unfold ah.read;rw [acr h9]);have c1:(l.length:Int)<9:=oQ;clear hr hH h9 hl;go_enter Tryz.func50,Tryz.ntmps50;go_wp2_with (first|((with_reducible refine sG ⟨?_⟩);refine tY aQ ?_;intro bE wE hE)|((with_reducible refine xH ⟨?_⟩);refine yZ ?_)|((with_reducible refine qm ⟨?_⟩);first|(refine jV aQ aj aj fQ eX sQ ?_;intro wS hS)|(refine jV (e:=ah.zeroE) (da:=none) (dn:=0) (dc:=0) aQ aj aj rfl eX sQ ?_;intro wS hS)));rw [Hf.out];refine ⟨rfl,_,Dw rfl aQ aj bC rfl,_,rfl,none,0,rfl,Sat.gI.2 (Sat.sb hS)⟩
 obtain ⟨bk,off,rfl,hcell⟩:∃ bk off,ba=some ⟨bk,off,none⟩∧True:=by
  have hx:(aA l)[0]?=some (.int .u8 (l[0]'oQ).toNat):=by
   unfold aA;rw [acE,aaI oQ];rfl
  obtain ⟨bk,off,hb,_⟩:=qU (hr w h) hx;exact ⟨bk,off,hb,trivial⟩
 clear hcell;have hrd:=hr w h;have zD:=uQ (show ∀ (i j:Nat),i≤j→j≤l.length→∀ w,Sat w0 w F→bG 1 (.slice (some ⟨bk,off+i,none⟩) (j - i) (bc - i)) (aA ((l.take j).drop i)) w from fun i j h1 h2 w hw=>aam (hr w hw) i j (bc - i) h1 h2)
 have ade:=uQ (show ∀ w,Sat w0 w F→Calls Tryz.prog 93 #[.slice (some ⟨bk,off+4,none⟩) (l.length - 4) (bc - 4)] w (aP fun v w'=>v = .int .u32 (ah.num ((l.drop 4).take 4):Nat)∧w=w') from fun w hw=>Zz (l.drop 4) (by rw [acL];omega) _ (l.length - 4) (bc - 4) oQ oQ (by
  have:=zD.out 4 l.length oQ (abL _) w hw;rw [adk]at this;exact this))
 have adf:=uQ (show ∀ w,Sat w0 w F→Calls Tryz.prog 93 #[.slice (some ⟨bk,off,none⟩) l.length bc] w (aP fun v w'=>v = .int .u32 (ah.num (l.take 4):Nat)∧w=w') from fun w hw=>Zz l oQ _ l.length bc hbn hbc (hr w hw))
 have pz:=uQ (show ah.read l=if ah.fits (l.getD 8 0) (ah.num ((l.drop 4).take 4))=false then (ah.zeroE,0,4)
  else if l.length<ah.num ((l.drop 4).take 4) then (ah.zeroE,0,3)
  else if ah.crc ((l.take (ah.num ((l.drop 4).take 4))).drop 4)≠ah.num (l.take 4) then (ah.zeroE,0,13)
  else if 41≤ah.num ((l.drop 4).take 4) then (⟨(l.getD 8 0).toNat,(l.drop 9).take 32,(l.take (ah.num ((l.drop 4).take 4))).drop 41⟩,ah.num ((l.drop 4).take 4),0)
  else (⟨(l.getD 8 0).toNat,ah.zero32,[]⟩,ah.num ((l.drop 4).take 4),0) by unfold ah.read;rw [abA h9])
 have hN:ah.num ((l.drop 4).take 4)<4294967296:=by
  have:=ah.yE ((l.drop 4).take 4);rw [acA,acL]at this;have h4:min 4 (l.length - 4)=4:=oQ;rw [h4]at this;omega
 generalize hNN:ah.num ((l.drop 4).take 4)=N at *
 have hfits:=fun w=>af4 (l.getD 8 0) N hN w;have hfg:ah.fits (l.getD 8 0) N=true→9≤N:=by
  unfold ah.fits;intro hh;split at hh
  ·have:=ail hh;omega
  ·split at hh
   ·have:=ail hh;omega
   ·split at hh
    ·have:=ail hh;omega
    ·cases hh
 have hc8:∀ w,Sat w0 w F→w.cell? ⟨bk,off+8,none⟩=some (.int .u8 (l.getD 8 0).toNat):=fun w hw=>by
  have hx:(aA l)[8]?=some (.int .u8 (l.getD 8 0).toNat):=by
   unfold aA;rw [acE,acG,aaI oQ];rfl
  obtain ⟨Ny,off',hb,hc⟩:=qU (hr w hw) hx;cases hb;exact hc _ _ hx
 have uj:=uQ hc8;have Hr:=uQ hr;have HH:=uQ hH;have Hl:=uQ hl;have Hfg:=uQ hfg;have acZ:=uQ hfits;have c1:¬ (l.length:Int)<9:=oQ;have c2:¬ bc=4:=oQ;have c3:(4:Int)≤(l.length:Int):=oQ;have c4:(l.length:Int)≤(bc:Int):=oQ;have c5:(8:Int)<(l.length:Int):=oQ;have wW:=uQ (show l.length≤bc∧bc≤9223372036854775807∧9≤l.length∧N<4294967296 from ⟨hbn,hbc,by omega,hN⟩);have hcv:IntKind.i64.wrap (N:Int)=(N:Int):=by rw [adL];omega
 clear hrd hNN hc8 hr hH hl h9 hbn hbc hfg hfits hN;generalize l.getD 8 0=tg at *
 have Yk:=tg.toNat_lt;have hct:IntKind.i64.wrap (tg.toNat:Int)=(tg.toNat:Int):=by rw [adL];omega
 have htb:(tg.toNat:Int)<256:=oQ;go_enter Tryz.func50,Tryz.ntmps50;go_wp2_with ((with_reducible refine sG ⟨?_⟩);refine tY aQ ?_;intro bE wE hE);refine (ade.out _ hE.drop).mono ?_;rintro ee w2 ⟨v,rfl,rfl,rfl⟩;have e8:=uj.out _ hE.drop;go_wp2_with fail;refine (acZ.out _).mono ?_;rintro ee w2 ⟨v,rfl,rfl,rfl⟩;cases hft:ah.fits tg N
 ·have Hf:=uQ (pz.out.trans (acr hft));clear hft;go_wp2_with (first|((with_reducible refine xH ⟨?_⟩);refine yZ ?_)|((with_reducible refine qm ⟨?_⟩);first|(refine jV aQ aj aj fQ eX sQ ?_;intro wS hS)|(refine jV (e:=ah.zeroE) (da:=none) (dn:=0) (dc:=0) aQ aj aj rfl eX sQ ?_;intro wS hS)));rw [Hf.out];refine ⟨rfl,_,Dw rfl aQ aj bC rfl,_,rfl,none,0,rfl,Sat.gI.2 (Sat.sb hS)⟩
 have Hf:=uQ (pz.out.trans (abA (by rw [hft];decide)));have Xw:=Hfg.out hft;clear hft;by_cases Jr:l.length<N
 ·have Ed:=uQ (Hf.out.trans (acr Jr));have c6:(l.length:Int)<(N:Int):=oQ;clear Jr Xw;go_wp2_with (first|((with_reducible refine xH ⟨?_⟩);refine yZ ?_)|((with_reducible refine qm ⟨?_⟩);first|(refine jV aQ aj aj fQ eX sQ ?_;intro wS hS)|(refine jV (e:=ah.zeroE) (da:=none) (dn:=0) (dc:=0) aQ aj aj rfl eX sQ ?_;intro wS hS)));rw [Ed.out];refine ⟨rfl,_,Dw rfl aQ aj bC rfl,_,rfl,none,0,rfl,Sat.gI.2 (Sat.sb hS)⟩
 have Ed:=uQ (Hf.out.trans (abA Jr));clear Hf pz;have c6:¬ (l.length:Int)<(N:Int):=oQ;have c7:(4:Int)≤(N:Int):=oQ;have c8:(N:Int)≤(bc:Int):=oQ;have zq:=uQ (show N≤l.length∧9≤N by omega);clear Jr Xw;go_wp2_with fail;refine (NP ((l.take N).drop 4) (Ro.os HH.out) (fun w hw=>zD.out 4 N (by have:=zq.out;omega) zq.out.1 w (hw.sb)) hE (by rw [acL,acA];have:=Hl.out;omega)).mono ?_;rintro ee w2 ⟨v,rfl,rfl,rfl⟩;go_wp2_with fail;refine (adf.out _ hE.drop).mono ?_;rintro ee w2 ⟨v,rfl,rfl,rfl⟩;generalize ah.crc ((l.take N).drop 4)=A at *
 generalize ah.num (l.take 4)=B at *
 by_cases hAB:A=B;rotate_left
 ·have Ig:=uQ (Ed.out.trans (acr hAB));have c9:((A:Int)==(B:Int))=false:=by rw [acH];omega
  clear hAB;go_wp2_with (first|((with_reducible refine xH ⟨?_⟩);refine yZ ?_)|((with_reducible refine qm ⟨?_⟩);first|(refine jV aQ aj aj fQ eX sQ ?_;intro wS hS)|(refine jV (e:=ah.zeroE) (da:=none) (dn:=0) (dc:=0) aQ aj aj rfl eX sQ ?_;intro wS hS)));rw [Ig.out];refine ⟨rfl,_,Dw rfl aQ aj bC rfl,_,rfl,none,0,rfl,Sat.gI.2 (Sat.sb hS)⟩
 subst hAB;have Ig:=uQ (Ed.out.trans (abA (fun h=>h rfl)));clear Ed;by_cases sK:41≤N;rotate_left
 ·have LV:=uQ (Ig.out.trans (abA sK));have c9:¬ (41:Int)≤(N:Int):=oQ;clear sK;go_wp2_with (first|((with_reducible refine U9 ⟨?_⟩);refine ab6 aj ?_)|((with_reducible refine sG ⟨?_⟩);refine tY aQ ?_;intro bE wE hE)|((with_reducible refine qm ⟨?_⟩);first|(refine jV aQ aj aj fQ eX sQ ?_;intro wS hS)|(refine jV (e:=ah.zeroE) (da:=none) (dn:=0) (dc:=0) aQ aj aj rfl eX sQ ?_;intro wS hS))|((with_reducible refine EL ⟨?_⟩);refine GR aQ aj bC fQ ?_));rw [LV.out];simp only [adF];refine ⟨rfl,_,Dw rfl aQ aj bC rfl,_,rfl,none,0,rfl,Sat.gI.2 (Sat.sb hS)⟩
 have LV:=uQ (Ig.out.trans (acr sK));have oC:=uQ (show ((l.drop 9).take 32).length=32 by rw [acA,acL];have:=zq.out;omega);have Ik:=uQ (show (aA ((l.drop 9).take 32)).length=32 by rw [aX];exact oC.out)
 have adn:=uQ (show ∀ w,Sat w0 w F→w.rangeAt bk (off+9) (aA ((l.drop 9).take 32)) from fun w hw=>by
  intro j y hj;have hsb:=zD.out 9 41 aN (by have:=zq.out;omega) w hw;have e:(l.take 41).drop 9=(l.drop 9).take 32:=by rw [List.drop_take]
  rw [e]at hsb;obtain ⟨b',o',hb,hc⟩:=qU hsb hj;cases hb;exact hc _ _ hj)
 have c9:(41:Int)≤(N:Int):=oQ;have c10:¬ bc=9:=by have:=zq.out;have:=wW.out;omega
 have c11:(41:Int)≤(bc:Int):=oQ;obtain ⟨ad,had,hsl⟩:∃ ad:Addr,(41<N→ad=⟨bk,off+41,none⟩)∧∀ w,(Instr.sliceAt 39 (.slice (some ⟨bk,off,none⟩) l.length bc) (some (.int .i64 41)) (some (.int .i64 N)) none).run Tryz.prog w = .ok (.slice (some ad) (N - 41) (bc - 41)) w:=by
  by_cases hce:bc=41
  ·refine ⟨⟨bk,off,none⟩,fun hh=>by have:=zq.out;have:=wW.out;omega,fun w=>?_⟩;have c12:(N:Int)≤41:=oQ;have c13:¬ (41:Int)<(N:Int):=oQ;go_simp
  ·refine ⟨⟨bk,off+41,none⟩,fun _=>rfl,fun w=>?_⟩;go_simp
 have Had:=uQ had
 have acU:=uQ (show ∀ w,Sat w0 w F→bG 1 (.slice (some ad) (N - 41) (bc - 41)) (aA ((l.take N).drop 41)) w from fun w hw=>by
  by_cases h2:41<N
  ·rw [Had.out h2];exact zD.out 41 N oQ zq.out.1 w hw
  ·have:(l.take N).drop 41=[]:=adp (by rw [acA];omega);rw [this,show N - 41=0 by omega];exact ⟨_,0,_,rfl,rfl,by simp [aA]⟩)
 clear sK had;have hat:=fun w=>akz ⟨bk,off+9,none⟩ (bc - 9) w
 go_wp2_with (first
  |((with_reducible refine U9 ⟨?_⟩);refine ab6 aj ?_)|((with_reducible refine sG ⟨?_⟩);refine tY aQ ?_;intro bE wE hE)|((with_reducible refine qm ⟨?_⟩);first|(refine jV aQ aj aj fQ eX sQ ?_;intro wS hS)|(refine jV (e:=ah.zeroE) (da:=none) (dn:=0) (dc:=0) aQ aj aj rfl eX sQ ?_;intro wS hS))
  |((with_reducible refine bI ⟨?_⟩);refine wpList_load_mid aj 50 _ aj bk (off+9) aj (aA ((l.drop 9).take 32)) _ (adn.out _ (Sat.sb aQ)) Tryz.underlying50 rfl (by rw [Ik.out];kernel_rfl) ?_)
  |((with_reducible refine cO ⟨?_⟩);refine amX (key:=(l.drop 9).take 32) aQ aj aj rfl oC.out eX ?_;intro wK hK)
  |((with_reducible refine aec ⟨?_⟩);refine amV aj aj aj hsl ?_))
 refine (zS hK (acU.out _ (hK.sb)) (by rw [acL,acA];have:=Hl.out;omega)).mono ?_;rintro ee w3 ⟨v,rfl,hS3,ca,cn,cc,rfl⟩;have hcn:cn=((l.take N).drop 41).length:=by
  obtain ⟨_,_,_,he,hl',_⟩:=Sat.rd hS3;cases he;rw [aX,adb]at hl';exact hl'.symm
 subst hcn;have TY:=oC.out;generalize (l.drop 9).take 32=key at *
 generalize (l.take N).drop 41=data at *
 go_wp2_with (first
  |((with_reducible refine cO ⟨?_⟩);refine amW (e:=⟨(tg.toNat:Int),key,[]⟩) (data:=data) aQ aj aj TY eX ?_;intro wD hD)
  |((with_reducible refine EL ⟨?_⟩);refine GR aQ aj bC fQ ?_)|((with_reducible refine qm ⟨?_⟩);first|(refine jV aQ aj aj fQ eX sQ ?_;intro wS hS)|(refine jV (e:=ah.zeroE) (da:=none) (dn:=0) (dc:=0) aQ aj aj rfl eX sQ ?_;intro wS hS)))
 rw [LV.out];simp only;refine ⟨rfl,_,Dw rfl aQ aj bC TY,_,rfl,ca,cc,rfl,Sat.sb hS⟩
end
end Go.Proofs.YtihngncbioofnaaGreatDoor
namespace Go.ah
structure dA where
 e:aG
 at_:Nat
 size:Nat
def oh:Nat→Bs→Nat→List dA×Nat×Int
 |0,_,at_=>([],at_,0)
 |k+1,b,at_=>
  if b=[] then ([],at_,0)
  else if (read b).2.2≠0 then ([],at_,(read b).2.2)
  else (⟨(read b).1,at_,(read b).2.1⟩::(oh k (b.drop (read b).2.1) (at_+(read b).2.1)).1,(oh k (b.drop (read b).2.1) (at_+(read b).2.1)).2)
def tq:Bs:=[72,79,65,82,68,83,69,71]
def scan (b:Bs):List dA×Nat×Int:=if b.take 8=tq then oh b.length (b.drop 8) 8 else ([],0,4)
end Go.ah
namespace Go.Proofs.YtihngncbioofnaaGreatDoor
open Go Go.Sl Go.ay Go.MapKept Go.RowKit
section
variable {w0 w:World}{F R:List aH}{v bv dv x lv av:Value}
theorem aan {l:Bs} (h:bG 1 v (aA l) w):(convert 39 9 v).run Tryz.prog w = .ok (.string ⟨l.toArray⟩) w:=by
 obtain ⟨a,n,c,rfl,hl,hx⟩:=h;rw [aX,adb]at hl;subst hl;cases a with
 |none=>
  obtain rfl:l=[]:=by
   cases l with
   |nil=>rfl
   |cons d l=>obtain ⟨b,hb,_⟩:=hx 0 _ rfl;cases hb
  exact Lib.run_convert_nil_bytes (P:=Tryz.prog) w _ _ 5 c Tryz.underlying39 Tryz.underlying5 Tryz.underlying9
 |some ad=>
  refine run_convert_bytes_back (P:=Tryz.prog) w _ _ 5 ad c l Tryz.underlying39 Tryz.underlying5 Tryz.underlying9 (fun j hj=>?_);have hy:(aA l)[j]?=some (.int .u8 (l[j]'hj).toNat):=by unfold aA;rw [acE,aaI hj];rfl
  obtain ⟨b,hb,hc⟩:=hx _ _ hy;cases hb;simpa using hc
theorem aer (la lb:Bs) (ha:bG 1 av (aA la) w) (hb:bG 1 bv (aA lb) w) :
  Calls Tryz.prog 92 #[av,bv] w (aP fun v w'=>v = .bool (decide (la=lb))∧w=w'):=by
 have h1:=aan ha;have h2:=aan hb
 have He:=uQ (show ((la.toArray.toList:List UInt8)==lb.toArray.toList)=decide (la=lb) by
  rw [anu,ai7,acF])
 clear ha hb;go_enter Tryz.func92,Tryz.ntmps92;go_wp2;go_ret;rw [← He.out];exact ⟨_,rfl,rfl,rfl⟩
theorem agS (l lp:Bs) (a:Option Addr) (n c:Nat) (hn:n≤c) (hc:c≤9223372036854775807) (ha:bG 1 (.slice a n c) (aA l) w) (pa:Option Addr) (pn pc:Nat) (hp:bG 1 (.slice pa pn pc) (aA lp) w) :
  Calls Tryz.prog 49 #[.slice a n c,.slice pa pn pc] w (aP fun v w'=>v = .bool (decide (l.take lp.length=lp))∧w=w'):=by
 have hln:n=l.length:=by
  obtain ⟨_,_,_,he,hl',_⟩:=ha;cases he;rw [aX,adb]at hl';exact hl'.symm
 have hpn:pn=lp.length:=by
  obtain ⟨_,_,_,he,hl',_⟩:=hp;cases he;rw [aX,adb]at hl';exact hl'.symm
 subst hln hpn;by_cases hle:lp.length≤l.length
 ·have h4:=aal (k:=lp.length) ha;rw [show min l.length lp.length=lp.length by omega]at h4;have hq:=aer _ _ h4 hp;have c1:(lp.length:Int)≤(l.length:Int):=oQ;have c2:(lp.length:Int)≤(c:Int):=oQ;have c3:lp.length≤l.length:=hle;clear h4 ha hp;go_enter Tryz.func49,Tryz.ntmps49;go_wp2_with (go_at_call 92;refine hq.mono ?_;rintro e w1 ⟨v,rfl,rfl,rfl⟩);go_ret;exact ⟨_,rfl,rfl,rfl⟩
 ·have c1:¬ lp.length≤l.length:=hle;have c2:decide ((lp.length:Int)≤(l.length:Int))=false:=ac4 oQ
  have He:=uQ (show decide (l.take lp.length=lp)=false by
   apply ac4;intro hh;have:=adu List.length hh;rw [acA]at this;omega)
  clear ha hp;go_enter Tryz.func49,Tryz.ntmps49;go_wp2;go_ret;rw [He.out];exact ⟨_,rfl,rfl,rfl⟩
end
end Go.Proofs.YtihngncbioofnaaGreatDoor
namespace Go.ah
theorem aap {b:Bs} (h:(read b).2.2=0):9≤(read b).2.1∧(read b).2.1≤b.length∧(read b).1.key.length=32:=by
 unfold read at *
 dsimp only at *
 split at h
 ·simp at h
 rename_i h9;rw [abA h9];split at h
 ·simp at h
 rename_i hf;rw [abA hf];split at h
 ·simp at h
 rename_i hl;rw [abA hl];split at h
 ·simp at h
 rename_i hc;rw [abA hc];have hfit:fits (b.getD 8 0) (num ((b.drop 4).take 4))=true:=by
  cases hh:fits (b.getD 8 0) (num ((b.drop 4).take 4)) with
  |true=>rfl
  |false=>exact absurd hh hf
 have Xr:9≤num ((b.drop 4).take 4):=by
  unfold fits at hfit;split at hfit
  ·have:=ail hfit;omega
  ·split at hfit
   ·have:=ail hfit;omega
   ·split at hfit
    ·have:=ail hfit;omega
    ·cases hfit
 split
 ·rename_i sK;refine ⟨Xr,Nat.not_lt.1 hl,?_⟩;simp only [acA,acL];omega
 ·exact ⟨Xr,Nat.not_lt.1 hl,rfl⟩
theorem Qv (b:Bs):(read b).1.key.length=32:=by
 unfold read;dsimp only;split
 ·rfl
 split
 ·rfl
 split
 ·rfl
 split
 ·rfl
 rename_i h9 hf hl hc;split
 ·rename_i sK;simp only [acA,acL];omega
 ·rfl
end Go.ah
namespace Go.Proofs.YtihngncbioofnaaGreatDoor
open Go Go.Sl Go.ay Go.MapKept Go.RowKit
def mO (f:ah.dA) (dv:Value):List Value:=kX f.e dv++[.int .i64 f.at_,.int .i64 f.size]
def fU (f:ah.dA) (dv:Value):Array Value:=(mO f dv).toArray
def jD (fs:List (ah.dA×Value)):List Value:=fs.flatMap fun p=>mO p.1 p.2
def kN (fs:List (ah.dA×Value)):aH:=stars (fs.map fun p=>bK p.2 p.1.e.data)
theorem sH (f:ah.dA) (dv:Value) (hk:f.e.key.length=32):(mO f dv).length=36:=by unfold mO;rw [aaK,NW _ _ hk];rfl
theorem oK (f:ah.dA) (dv:Value) (hk:f.e.key.length=32):(fU f dv).size=36:=by unfold fU;rw [abX,sH _ _ hk]
theorem WR {fs:List (ah.dA×Value)} (hk:∀ p∈fs,p.1.e.key.length=32):(jD fs).length=36 * fs.length:=by
 unfold jD
 induction fs with
 |nil=>rfl
 |cons p fs ih=>
  rw [ada,aaK,ih (fun q hq=>hk q (.tail _ hq)),sH _ _ (hk p (.head _)),ac5];omega
theorem af8 (es fs:List (ah.dA×Value)):jD (es++fs)=jD es++jD fs:=by unfold jD;rw [adz]
theorem afc (es:List (ah.dA×Value)) (x:ah.dA) (dv:Value):kN (es++[(x,dv)])=star (bK dv x.e.data) (kN es):=by
 unfold kN;rw [acI,qy,DC];show star (stars [bK dv x.e.data]) _=_;rw [DF]
theorem ajb:rM Tryz.prog 54=some [(0,34),(34,1),(35,1)]:=by kernel_rfl
def Tn:ah.dA:=⟨ah.zeroE,0,0⟩
theorem GY:jr Tryz.prog 54=some (.agg (fU Tn (.slice none 0 0))):=by kernel_rfl
theorem ajw (cs:Array Value) (hs:cs.size=36) (el:List Value) (u v:Value) (hk:el.length=34):(eu (eu (eu cs 0 el) 34 [u]) 35 [v]).toList=el++[u,v]:=by
 have hcl:cs.toList.length=36:=by simpa using hs
 have e1:(eu cs 0 el).toList=el++cs.toList.drop 34:=by
  rw [lg _ _ _ oQ,adH,adl,acT,hk]
 have e2:(eu (eu cs 0 el) 34 [u]).toList=el++[u]++cs.toList.drop 35:=by
  rw [lg _ _ _ (by rw [kE];simp;omega),e1,ado oQ,acX oQ,ac7,aou,hk,adp (l:=el) oQ,adl,aol]
 have h3:(el++[u]).length=35:=by simp [hk]
 rw [lg _ _ _ (by rw [kE,kE];simp;omega),e2,ado oQ,acX oQ,ac7,adp (by rw [aaK,h3,acL];omega)];simp
theorem akB (e:ah.aG) (hk:e.key.length=32) (da:Option Addr) (dn dc:Nat) (at_ n:Nat) (w:World) :
  (Instr.build 54 #[(0,.agg (dU e (.slice da dn dc))),(1,.int .i64 at_),(2,.int .i64 n)]).run Tryz.prog w = .ok (.agg (fU ⟨e,at_,n⟩ (.slice da dn dc))) w:=by
 have hz:(fU Tn (.slice none 0 0)).size=36:=oK _ _ rfl;have he:(dU e (.slice da dn dc)).size=34:=lT _ _ hk
 have h:=aod (P:=Tryz.prog) [(0,.agg (dU e (.slice da dn dc))),(1,.int .i64 at_),(2,.int .i64 n)] ajb GY (by
  intro p hp;simp only [acK,ag0,aoj]at hp;have hzz:(Value.agg (fU Tn (.slice none 0 0))).cells.size=36:=hz;rw [hzz];rcases hp with rfl|rfl|rfl
  ·refine ⟨0,?_,?_⟩
   ·show some (0,34)=some (0,(dU e (.slice da dn dc)).size);rw [he]
   ·show 0+(dU e (.slice da dn dc)).size≤36;omega
  ·exact ⟨34,rfl,by show 34+1≤36;omega⟩
  ·exact ⟨35,rfl,by show 35+1≤36;omega⟩) w
 refine h.trans ?_
 congr 2
 apply qR;exact ajw _ hz _ _ _ (show (dU e (.slice da dn dc)).toList.length=34 by rw [acJ,he])
section
variable {w0 w:World}{L L' R:List aH}{b:Nat}{ops:Array Oper}{rest:List Oper}{a:Act}{Q:Exit→Act→World→Prop}
variable {dst:Option Tmp}{t T ty:TypeId}{pos:String}{after:Array Edge}{x y z:Operand}{cs:Array Value}{v v1 v2 v3:Value}{i1 i2 i3:Nat}{P:Program}
theorem ab5 (h1:a.eval x=v1) (h2:a.eval y=v2) (h3:a.eval z=v3) (hr:∀ w,(Instr.build ty #[(i1,v1),(i2,v2),(i3,v3)]).run P w = .ok v w) (h:wpList P ops Q rest (a.put dst v) w) :
  wpList P ops Q (⟨dst,.build ty #[(i1,x),(i2,y),(i3,z)],t,pos,after,none⟩::rest) a w:=
 aeB rfl fun _ hK=>by
  unfold Oper.wp execOp;simp only [aes,acS,adw,h1,h2,h3,acN,hr,acB,ac1];exact hK _ _ h
theorem U8 (h:Stop (wpList P ops Q (⟨dst,.build ty #[(i1,x),(i2,y),(i3,z)],t,pos,after,none⟩::rest) a w)):wpList P ops Q (⟨dst,.build ty #[(i1,x),(i2,y),(i3,z)],t,pos,after,none⟩::rest) a w:=h.out
theorem E5 (f:ah.dA) (a:Option Addr) (n c:Nat):(fU f (.slice a n c)).toList.all (·.oneCell')=true:=by
 unfold fU mO;rw [acW,ahh];have h1:(kX f.e (.slice a n c)).all (·.oneCell')=true:=by
  have:=Wx f.e a n c;unfold dU at this
  rwa [acW]at this
 rw [h1];rfl
end
end Go.Proofs.YtihngncbioofnaaGreatDoor
namespace Go.Rep
open Go.ah (Bs dA)
open Go.Seg (aU)
open Go.Tab (put)
abbrev Row:=Int×dA
def fB (r:Row):Bs:=r.2.e.key
def dJ (r:Row):Int:=r.2.e.tag
def iH (r:Row):aU:=⟨r.1,r.2.at_,r.2.size⟩
structure dP where
 tag:Int
 place:aU
 first:Int
def newest:List Row→Bs→Option Row
 |[],_=>none
 |r::l,k=>match newest l k with
  |some x=>some x
  |none=>if dJ r≠2∧fB r=k then some r else none
def nH:List Row→Bs→Option Row
 |[],_=>none
 |r::l,k=>if dJ r=0∧fB r=k then some r else nH l k
def first (l:List Row) (k:Bs):Int:=match nH l k with
 |some r=>r.1
 |none=> -1
def ledger (l:List Row) (k:Bs):Option dP:=(newest l k).map fun r=>⟨dJ r,iH r,first l k⟩
def zZ (m:Bs→Option dP) (r:Row):Int:=match m (fB r) with
 |some a=>a.first
 |none=> -1
def nT (m:Bs→Option dP) (r:Row):Int:=if dJ r=0∧zZ m r<0 then r.1 else zZ m r
def Gz (m:Bs→Option dP) (r:Row):Bs→Option dP:=
 if dJ r=2 then m else put m (fB r) ⟨dJ r,iH r,nT m r⟩
theorem Df (l:List Row) (r:Row) (k:Bs):newest (l++[r]) k=if dJ r≠2∧fB r=k then some r else newest l k:=by
 induction l with
 |nil=>simp only [adl,newest]
 |cons x l ih=>
  simp only [adA,newest,ih];split
  ·rename_i h;split at h
   ·rename_i h2;rw [acr h2];cases h;rfl
   ·rename_i h2;rw [abA h2,h]
  ·rename_i h;split at h
   ·cases h
   ·rename_i h2;rw [abA h2,h]
theorem N8 (l:List Row) (r:Row) (k:Bs):nH (l++[r]) k=match nH l k with
  |some x=>some x
  |none=>if dJ r=0∧fB r=k then some r else none:=by
 induction l with
 |nil=>simp only [adl,nH]
 |cons x l ih=>
  simp only [adA,nH,ih];split
  ·rename_i h;simp only
  ·rfl
theorem aiB {l:List Row}{k:Bs} (h:newest l k=none):nH l k=none:=by
 induction l with
 |nil=>rfl
 |cons x l ih=>
  simp only [newest]at h;split at h
  ·cases h
  ·rename_i h1;split at h
   ·cases h
   ·rename_i h2;simp only [nH];rw [abA fun h3=>h2 ⟨by rw [h3.1];decide,h3.2⟩];exact ih h1
theorem WL {l:List Row}{k:Bs}{r:Row} (h:nH l k=some r):r∈l∧dJ r=0∧fB r=k:=by
 induction l with
 |nil=>cases h
 |cons x l ih=>
  simp only [nH]at h;split at h
  ·cases h;exact ⟨.head _,by assumption⟩
  ·exact ⟨.tail _ (ih h).1,(ih h).2⟩
theorem ah1 (l:List Row) (r:Row) (h0:∀ x∈l,0≤x.1):ledger (l++[r])=Gz (ledger l) r:=by
 funext k
 unfold Gz;by_cases h2:dJ r=2
 ·rw [acr h2];unfold ledger first
  rw [Df,abA (fun h=>h.1 h2),N8];cases nH l k with
  |some x=>rfl
  |none=>simp only;rw [abA (fun h=>by rw [h2]at h;exact absurd h.1 aN)]
 ·rw [abA h2];unfold put;by_cases hk:k=fB r
  ·subst hk;rw [acr rfl];have e1:∀ k,ledger l k=(newest l k).map fun r=>⟨dJ r,iH r,first l k⟩:=fun _=>rfl;have e2:ledger (l++[r]) (fB r)=some ⟨dJ r,iH r,first (l++[r]) (fB r)⟩:=by
    unfold ledger;rw [Df,acr ⟨h2,rfl⟩,ahf]
   rw [e2]
   congr 2
   unfold nT zZ;rw [e1];unfold first
   rw [N8];cases hn:newest l (fB r) with
   |none=>
    rw [aiB hn];simp only [an5];by_cases ht:dJ r=0
    ·rw [acr ⟨ht,trivial⟩,acr ⟨ht,by decide⟩]
    ·rw [abA (fun h=>ht h.1),abA (fun h=>ht h.1)]
   |some x=>
    simp only [ahf];cases hf:nH l (fB r) with
    |some y=>
     simp only;rw [abA (fun h=>by have:=h0 y (WL hf).1;omega)]
    |none=>
     simp only;by_cases ht:dJ r=0
     ·rw [acr ⟨ht,trivial⟩,acr ⟨ht,by decide⟩]
     ·rw [abA (fun h=>ht h.1),abA (fun h=>ht h.1)]
  ·rw [abA hk];unfold ledger first
   rw [Df,abA (fun h=>hk h.2.symm),N8];cases nH l k with
   |some x=>rfl
   |none=>simp only;rw [abA (fun h=>hk h.2.symm)]
def counts (a:dP):Bool:=decide (a.tag=0) || (decide (0≤a.first) && decide (a.first<a.place.seg))
def mP (l:List Row) (i:Nat):Bool:=match l[i]? with
 |none=>false
 |some r=>decide (dJ r<2) && (l.drop (i+1)).all fun x => !(decide (dJ x<2) && decide (fB x=fB r))
def cnt (l:List Row) (i:Nat):Bool:=match l[i]? with
 |none=>false
 |some r => !decide (dJ r=2) && mP l i && (decide (dJ r=0) || (l.take i).any fun x=>decide (dJ x=0) && decide (fB x=fB r) && decide (x.1<r.1))
structure Rows (l:List Row):Prop where
 tag:∀ r∈l,dJ r=0∨dJ r=1∨dJ r=2
 seg:∀ r∈l,0≤r.1
 rise:l.Pairwise fun a b=>a.1≤b.1
theorem Zf {l:List Row}{k:Bs} (ht:∀ r∈l,dJ r=0∨dJ r=1∨dJ r=2):newest l k=none↔(l.all fun x => !(decide (dJ x<2) && decide (fB x=k)))=true:=by
 induction l with
 |nil=>exact ⟨fun _=>rfl,fun _=>rfl⟩
 |cons y l ih=>
  rw [aoI,adg,← ih (fun r h=>ht r (.tail _ h))];have hy:=ht y (.head _);simp only [newest];cases hn:newest l k with
  |some x=>simp
  |none=>
   simp only [and_true];by_cases hc:dJ y≠2∧fB y=k
   ·rw [acr hc];have:dJ y<2:=oQ;simp [this,hc.2]
   ·rw [abA hc];simp only [true_iff,aoE,Bool.and_eq_false_iff,adE];by_cases h2:dJ y<2
    ·exact .inr fun h=>hc ⟨by omega,h⟩
    ·exact .inl h2
theorem Zj:∀ {l:List Row}{i:Nat}{r:Row},(∀ r∈l,dJ r=0∨dJ r=1∨dJ r=2)→l[i]?=some r→mP l i=true→newest l (fB r)=some r
 |[],_,_,_,hi,_=>by simp at hi
 |x::l,0,r,ht,hi,hn=>by
  obtain rfl:x=r:=by simpa using hi
  unfold mP at hn;rw [hi]at hn;simp only [adg,acF]at hn;have h2:newest l (fB x)=none:=(Zf fun r h=>ht r (.tail _ h)).2 hn.2;have:=hn.1;simp only [newest,h2];rw [acr ⟨by omega,trivial⟩]
 |x::l,i+1,r,ht,hi,hn=>by
  have hi':l[i]?=some r:=by simpa using hi
  have hn':mP l i=true:=by
   unfold mP at hn ⊢;rw [hi]at hn;rw [hi'];exact hn
  simp only [newest,Zj (fun r h=>ht r (.tail _ h)) hi' hn']
theorem Zk:∀ {l:List Row}{k:Bs}{r:Row},(∀ r∈l,dJ r=0∨dJ r=1∨dJ r=2)→newest l k=some r→∃ i,l[i]?=some r∧mP l i=true∧fB r=k∧dJ r≠2
 |[],_,_,_,h=>by cases h
 |x::l,k,r,ht,h=>by
  simp only [newest]at h;cases hn:newest l k with
  |some y=>
   rw [hn]at h;obtain rfl:y=r:=by simpa using h
   obtain ⟨i,a,b,c,d⟩:=Zk (fun r h=>ht r (.tail _ h)) hn;refine ⟨i+1,by simpa using a,?_,c,d⟩;unfold mP at b ⊢;rw [a]at b;rw [show (x::l)[i+1]?=some y by simpa using a];exact b
  |none=>
   rw [hn]at h;simp only at h;split at h
   ·rename_i hc;obtain rfl:x=r:=by simpa using h
    refine ⟨0,rfl,?_,hc.2,hc.1⟩;have hx:=ht x (.head _);unfold mP;simp only [List.getElem?_cons_zero,acT,List.drop_one,List.tail_cons,adg,acF];refine ⟨by omega,?_⟩;rw [← Zf fun r h=>ht r (.tail _ h),hc.2];exact hn
   ·cases h
theorem WJ:∀ {l:List Row}{k:Bs}{r x:Row},l.Pairwise (fun a b=>a.1≤b.1)→nH l k=some r→x∈l→dJ x=0→fB x=k→r.1≤x.1
 |[],_,_,_,_,h,_,_,_=>by cases h
 |y::l,k,r,x,hp,h,hx,h0,hk=>by
  obtain ⟨p1,p2⟩:=aeA.1 hp;simp only [nH]at h;split at h
  ·obtain rfl:y=r:=by simpa using h
   rcases acK.1 hx with rfl|hx
   ·exact an2 _
   ·exact p1 x hx
  ·rename_i hc;rcases acK.1 hx with rfl|hx
   ·exact absurd ⟨h0,hk⟩ hc
   ·exact WJ p2 h hx h0 hk
theorem af0 {l:List Row}{k:Bs} (h:nH l k=none):∀ x∈l,¬ (dJ x=0∧fB x=k):=by
 induction l with
 |nil=>intro x hx;cases hx
 |cons y l ih=>
  simp only [nH]at h;split at h
  ·cases h
  ·rename_i hc;intro x hx;rcases acK.1 hx with rfl|hx
   ·exact hc
   ·exact ih h x hx
theorem VF {l:List Row}{i:Nat}{r:Row} (hl:Rows l) (hi:l[i]?=some r) (hn:mP l i=true):∃ a,ledger l (fB r)=some a∧a.tag=dJ r∧a.place=iH r∧counts a=cnt l i:=by
 have h1:=Zj hl.tag hi hn;refine ⟨⟨dJ r,iH r,first l (fB r)⟩,by unfold ledger;rw [h1];rfl,rfl,rfl,?_⟩;have hmem:=abV hi;have h2:dJ r≠2:=by
  unfold mP at hn;rw [hi]at hn;simp only [adg,acF]at hn;have:=hn.1;omega
 unfold cnt;rw [hi];simp only [hn,h2,decide_false,Bool.not_false,aoJ];unfold counts;simp only;by_cases h0:dJ r=0
 ·simp [h0]
 ·simp only [h0,decide_false,Bool.false_or];rw [anu];simp only [adg,acF,List.any_eq_true];unfold first iH
  simp only;cases hf:nH l (fB r) with
  |none=>
   simp only;constructor
   ·intro h;omega
   ·rintro ⟨x,hx,⟨h3,h4⟩,_⟩;exact absurd ⟨h3,h4⟩ (af0 hf x (adG hx))
  |some y=>
   obtain ⟨m1,m2,m3⟩:=WL hf;simp only;constructor
   ·rintro ⟨_,h5⟩;obtain ⟨j,hj,he⟩:=anA m1;have hij:j<i:=by
     rcases aoD j i with q|q|q
     ·exact q
     ·subst q;rw [aaI hj,he]at hi;cases hi;exact absurd m2 h0
     ·obtain ⟨hi',he'⟩:=abW.1 hi;have:=anl.1 hl.rise i j hi' hj q;rw [he,he']at this;omega
    refine ⟨y,?_,⟨m2,m3⟩,h5⟩;rw [List.mem_take_iff_getElem];exact ⟨j,by omega,he⟩
   ·rintro ⟨x,hx,⟨h3,h4⟩,h5⟩;have:=WJ hl.rise hf (adG hx) h3 h4;exact ⟨hl.seg y m1,by omega⟩
theorem aeP {l:List Row}{i:Nat} (h:cnt l i=true):mP l i=true:=by
 unfold cnt at h;split at h
 ·cases h
 ·simp only [adg]at h;exact h.1.2
end Go.Rep
namespace Go.Proofs.YtihngncbioofnaaGreatDoor
open Go Go.Sl Go.ay Go.MapKept Go.RowKit
def jY (xs:List Value) (i:Nat) (vs:List Value):List Value:=xs.take i++(vs++xs.drop (i+vs.length))
theorem Bc (A B vs:List Value) (i:Nat):jY (A++B) (A.length+i) vs=A++jY B i vs:=by
 unfold jY;rw [List.take_length_add_append,an9,List.drop_length_add_append,acD]
theorem Z9 {xs vs:List Value}{i:Nat} (h:i+vs.length≤xs.length):(jY xs i vs).length=xs.length:=by
 unfold jY;simp only [aaK,acA,acL];omega
section
variable {P:Program}{w0 w:World}{L L':List aH}{b o:Nat}{ops:Array Oper}{rest:List Oper}{a:Act}{Q:Exit→Act→World→Prop}{dst:Option Tmp}{t ty T sz n c:Nat}{pos:String}{after:Array Edge}{x y:Operand}{v:Value}{xs vs:List Value}{K:Act→World→Prop}{E:Prop}
theorem aae {cs:Array Value}{i m:Nat} (hx:cs.toList.take m=xs) (hm:m≤cs.size) (hi:i+vs.length≤m):(eu cs i vs).toList.take m=jY xs i vs:=by
 subst hx;rw [lg _ _ _ oQ];have hl:(cs.toList.take i++vs).length=i+vs.length:=by rw [aaK,acA,acJ];omega
 unfold jY;rw [List.take_append,hl,acX oQ,List.take_take,aoe oQ,List.drop_take,acD]
theorem amY (i:Nat) (hs:Sat w0 w L) (hx:a.eval x = .pointer (some ⟨b,i,none⟩)) (hy:a.eval y=v) (hv:v.cells.toList=vs) (u:oI (aB T sz (.slice (some ⟨b,0,none⟩) n c) xs) (aB T sz (.slice (some ⟨b,0,none⟩) n c) (jY xs i vs)) L L')
  (hi:i+vs.length≤xs.length) (hty:(P.info? ty).map (·.size)=some vs.length) (h1:vs.all (·.oneCell')=true)
  (hK:∀ w',Sat w0 w' L'→wpList P ops Q rest (a.put dst undef) w'):wpList P ops Q (⟨dst,.store ty x y,t,pos,after,none⟩::rest) a w:=by
 have hvs:v.cells.size=vs.length:=by rw [← hv,acJ]
 obtain ⟨R',h2,h3⟩:=u;have h:=hs.perm h2;rcases Sat.kP h with ⟨he,_⟩|⟨g',n',cap',cs,he,k1,k2,k3,k4,k5,k6⟩
 ·cases he
 ·cases he;have hlen:xs.length≤cs.size:=by rw [← k5,acA,acJ];omega
  have hm:n * sz≤cs.size:=acz (afx _ k2) k3;refine GV rfl ty x y rfl i v hx hy (by rw [hvs];omega) (by rw [hvs];exact hty) (by rw [← Array.all_toList,hv];exact h1) k6 fun w' hS=>hK w' (Sat.perm ?_ h3.symm);refine Sat.kR hS (by rw [Z9 hi];exact k1) k2 (by rw [kE];exact k3) k4 ?_;rw [hv];exact aae k5 hm (by rw [← k1];exact hi)
theorem uG (i:Nat) (hs:Sat w0 w L) (hx:a.eval x = .pointer (some ⟨b,i,none⟩)) (hy:a.eval y=v) (hv:v.cells.toList=vs) (u:oI (aB T sz (.slice (some ⟨b,0,none⟩) n c) xs) (aB T sz (.slice (some ⟨b,0,none⟩) n c) (jY xs i vs)) L L')
  (hi:i+vs.length≤xs.length) (hty:(P.info? ty).map (·.size)=some vs.length) (h1:vs.all (·.oneCell')=true)
  (hK:∀ w',Sat w0 w' L'→K (a.put dst undef) w') :
  if Region.wanted ⟨dst,.store ty x y,t,pos,after,none⟩ (yielded ops a.tmps)=true then Oper.wp P ⟨dst,.store ty x y,t,pos,after,none⟩ a w K Q else E:=by
 have hvs:v.cells.size=vs.length:=by rw [← hv,acJ]
 obtain ⟨R',h2,h3⟩:=u;have h:=hs.perm h2;rcases Sat.kP h with ⟨he,_⟩|⟨g',n',cap',cs,he,k1,k2,k3,k4,k5,k6⟩
 ·cases he
 ·cases he;have hlen:xs.length≤cs.size:=by rw [← k5,acA,acJ];omega
  have hm:n * sz≤cs.size:=acz (afx _ k2) k3;refine kW k6 hx hy (cs':=eu cs i vs) (by rw [hv]) cZ (by rw [hvs];omega) (by rw [hvs];exact hty) (by rw [hv];exact h1) fun w' hS=>hK w' (Sat.perm ?_ h3.symm);refine Sat.kR hS (by rw [Z9 hi];exact k1) k2 (by rw [kE];exact k3) k4 ?_;exact aae k5 hm (by rw [← k1];exact hi)
end
section
variable {α:Type}{f:α→List Value}{k:Nat}
theorem iY:∀ {l:List α},(∀ x∈l,(f x).length=k)→(l.flatMap f).length=k * l.length
 |[],_=>rfl
 |x::l,h=>by rw [ada,aaK,h x (.head _),iY fun y hy=>h y (.tail _ hy),ac5,Nat.mul_succ];omega
theorem Ko:∀ {l:List α}{i:Nat}{x:α}{j:Nat}{v:Value},(∀ x∈l,(f x).length=k)→l[i]?=some x→(f x)[j]?=some v→(l.flatMap f)[i * k+j]?=some v
 |[],_,_,_,_,_,h,_=>by cases h
 |y::l,0,x,j,v,hk,h,hj=>by
  obtain rfl:y=x:=by simpa using h
  rw [ada,Nat.zero_mul,acT,ac2 (abW.1 hj).1];exact hj
 |y::l,i+1,x,j,v,hk,h,hj=>by
  have h0:=hk y (.head _);rw [ada,Nat.succ_mul,ac0 oQ,h0,show i * k+k+j - k=i * k+j by omega];exact Ko (fun z hz=>hk z (.tail _ hz)) (by simpa using h) hj
theorem yN:∀ {l:List α}{i:Nat}{x:α},(∀ x∈l,(f x).length=k)→(f x).length=k→i<l.length→(l.set i x).flatMap f=jY (l.flatMap f) (i * k) (f x)
 |[],_,_,_,_,h=>by simp at h
 |y::l,0,x,hk,hx,h=>by
  have h0:=hk y (.head _);rw [List.set_cons_zero,ada,ada];unfold jY;rw [Nat.zero_mul,adH,adl,acT,hx,← h0,List.drop_left]
 |y::l,i+1,x,hk,hx,h=>by
  have h0:=hk y (.head _);rw [List.set_cons_succ,ada,ada,yN (fun z hz=>hk z (.tail _ hz)) hx (by simpa using h),Nat.succ_mul,aoh (i * k) k,← h0,Bc]
theorem Dx (n:Nat) (x:α):(List.replicate n x).flatMap f=(List.replicate n (f x)).flatten:=by
 induction n with
 |zero=>rfl
 |succ n ih=>rw [List.replicate_succ,ada,ih,List.replicate_succ,anI]
end
section
variable {w0 w:World}{F R:List aH}{α:Type}{f:α→List Value}{k:Nat}{T:TypeId}{v:Value}
theorem jG {l:List α}{i:Nat}{x:α} (hk:∀ x∈l,(f x).length=k) (h:bG k v (l.flatMap f) w) (hi:l[i]?=some x) (h0:0<k) :
  ∃ bk off c,v = .slice (some ⟨bk,off,none⟩) l.length c∧∀ j y,(f x)[j]?=some y→w.cell? ⟨bk,off+i * k+j,none⟩=some y:=by
 obtain ⟨a,n,c,rfl,hl,hx⟩:=id h;rw [iY hk]at hl;have hfx:=hk x (abV hi);obtain rfl:n=l.length:=by
  rw [ahC]at hl;exact (Nat.eq_of_mul_eq_mul_right h0 hl).symm
 obtain ⟨y0,hy0⟩:∃ y,(f x)[0]?=some y:=⟨_,aaI oQ⟩;have h1:=Ko hk hi hy0;obtain ⟨bk,off,rfl,hc⟩:=qU h h1;exact ⟨bk,off,c,rfl,fun j y hj=>by rw [an9];exact hc _ _ (Ko hk hi hj)⟩
theorem jl {l:List α} (hk:∀ x∈l,(f x).length=k) (h:bG k v (l.flatMap f) w) (h0:0<k):∃ a c,v = .slice a l.length c:=by
 obtain ⟨a,n,c,rfl,hl,hx⟩:=id h;rw [iY hk,ahC]at hl;exact ⟨a,c,by rw [Nat.eq_of_mul_eq_mul_right h0 hl]⟩
end
theorem UQ (x j:Nat) (hx:x<9223372036854775808) (hj:j<63):bits .and .i64 (x:Int) ((2^j - 1:Nat):Int)=((x%2^j:Nat):Int):=by
 have h2:2^j≤2^62:=anR aN oQ;have h3:(2:Nat)^62=4611686018427387904:=by decide
 have h4:0<2^j:=Nat.two_pow_pos j;have hm:(BitVec.ofInt 64 ((2^j - 1:Nat):Int)).toNat=2^j - 1:=by
  rw [BitVec.toNat_ofInt];have:((2^64:Nat):Int)=18446744073709551616:=by decide
  rw [this];omega
 have hn:(BitVec.ofInt 64 (x:Int)).toNat=x:=by
  rw [BitVec.toNat_ofInt];have:((2^64:Nat):Int)=18446744073709551616:=by decide
  rw [this];omega
 show IntKind.i64.wrap ((BitVec.ofInt 64 (x:Int) &&& BitVec.ofInt 64 ((2^j - 1:Nat):Int)).toNat:Nat)=_;rw [BitVec.toNat_and,hm,hn,Nat.and_two_pow_sub_one_eq_mod,adL];have:=anH x h4;omega
theorem Qb (l:Bs) (c:UInt8) (k:Nat) (hl:l.length=k) (hk:k<4):bits .or .u32 ((ah.num l:Nat):Int) ((c.toNat:Int) * ((256^k:Nat):Int))=((ah.num (l++[c]):Nat):Int):=by
 subst hl;have h1:=ah.yE l;have h2:=c.toNat_lt;have h3:256^l.length≤256^3:=anR aN oQ;have h4:c.toNat * 256^l.length≤255 * 256^3:=anv oQ h3;have h5:(256:Nat)^3=16777216:=by decide
 have e:(c.toNat:Int) * ((256^l.length:Nat):Int)=((c.toNat * 256^l.length:Nat):Int):=by rw [Int.natCast_mul]
 rw [e,u32_or_nat _ _ oQ oQ,ah.P8]
 congr 1
 have hp:(256:Nat)^l.length=2^(8 * l.length):=by rw [Nat.pow_mul]
 rw [hp]at h1 ⊢;have:=Nat.two_pow_add_eq_or_of_lt h1 c.toNat;rw [Nat.or_comm,ahC c.toNat,← this,aoh]
section
variable {w0 w:World}{F R:List aH}
theorem ag8 (k:Bs) (hk:k.length=32) (j:Nat) (hj:j<40) (h:Sat w0 w F) :
  Calls Tryz.prog 179 #[.agg (aA k).toArray,.int .i64 (2^j:Nat)] w (aP fun v w'=>v = .int .i64 (Tab.home k (2^j):Nat)∧Sat w0 w' F):=by
 obtain ⟨c0,c1,c2,c3,t,rfl⟩:∃ c0 c1 c2 c3 t,k=c0::c1::c2::c3::t:=by
  match k,hk with
  |c0::c1::c2::c3::t,_=>exact ⟨c0,c1,c2,c3,t,rfl⟩
 have Hh:=uQ (show Tab.home (c0::c1::c2::c3::t) (2^j)=ah.num [c0,c1,c2,c3]%2^j from rfl);have hB:=h.alloc (.cells (aA (c0::c1::c2::c3::t)).toArray 50);have e0:(w.alloc (.cells (aA (c0::c1::c2::c3::t)).toArray 50)).cell? ⟨w.heap.size,0,none⟩=some (.int .u8 c0.toNat):=hB.cellAt 0 _ rfl;have e1:(w.alloc (.cells (aA (c0::c1::c2::c3::t)).toArray 50)).cell? ⟨w.heap.size,1,none⟩=some (.int .u8 c1.toNat):=hB.cellAt 1 _ rfl;have e2:(w.alloc (.cells (aA (c0::c1::c2::c3::t)).toArray 50)).cell? ⟨w.heap.size,2,none⟩=some (.int .u8 c2.toNat):=hB.cellAt 2 _ rfl;have e3:(w.alloc (.cells (aA (c0::c1::c2::c3::t)).toArray 50)).cell? ⟨w.heap.size,3,none⟩=some (.int .u8 c3.toNat):=hB.cellAt 3 _ rfl;have b0:=c0.toNat_lt;have b1:=c1.toNat_lt;have b2:=c2.toNat_lt;have b3:=c3.toNat_lt;have q1:bits .or .u32 (c0.toNat:Int) ((c1.toNat:Int) * 256)=((ah.num [c0,c1]:Nat):Int):=by
  have:=Qb [c0] c1 1 rfl aN;simpa [ah.num] using this
 have q2:bits .or .u32 ((ah.num [c0,c1]:Nat):Int) ((c2.toNat:Int) * 65536)=((ah.num [c0,c1,c2]:Nat):Int):=Qb [c0,c1] c2 2 rfl aN;have q3:bits .or .u32 ((ah.num [c0,c1,c2]:Nat):Int) ((c3.toNat:Int) * 16777216)=((ah.num [c0,c1,c2,c3]:Nat):Int):=Qb [c0,c1,c2] c3 3 rfl aN;have hn:=ah.yE [c0,c1,c2,c3];rw [show [c0,c1,c2,c3].length=4 from rfl,show (256:Nat)^4=4294967296 by decide]at hn;have hp:(2:Nat)^j≤2^40:=anR aN oQ;have hp1:(2:Nat)^40=1099511627776:=by decide
 have hp0:0<2^j:=Nat.two_pow_pos j;have q4:=UQ (ah.num [c0,c1,c2,c3]) j oQ oQ;generalize ah.num [c0,c1,c2,c3]=N at *
 generalize hC:2^j=C at *
 have hw1:IntKind.i64.wrap ((C:Int) - 1)=((C - 1:Nat):Int):=by rw [adL];omega
 have hw2:IntKind.i64.wrap (N:Int)=(N:Int):=acC _ oQ;have hm2:N%C<C:=anH _ hp0;clear h hk hC hp hp1;go_enter Tryz.func179,Tryz.ntmps179;go_wp2_with fail;go_ret;refine ⟨_,rfl,?_,hB.drop⟩;rw [Hh.out,Int.natCast_emod];rfl
end
section
variable {w0 w:World}{L L' R F:List aH}{b o:Nat}{ops:Array Oper}{rest:List Oper}{a:Act}{Q:Exit→Act→World→Prop}
variable {dst:Option Tmp}{t T ty:TypeId}{pos:String}{after:Array Edge}{x y:Operand}{cs:Array Value}{v:Value}{P:Program}
theorem iL (ks:List Value) (hx:a.eval x = .pointer (some ⟨b,o,none⟩)) (hc:∀ j v,ks[j]?=some v→w.cell? ⟨b,o+j,none⟩=some v)
  {d:TypeDesc} (hu:P.underlying ty=some d) (hd:d.isRow=true) (hi:(P.info? ty).map (·.size)=some ks.length)
  (h:wpList P ops Q rest (a.put dst (.agg ks.toArray)) w):wpList P ops Q (⟨dst,.load ty x,t,pos,after,none⟩::rest) a w:=
 wpList_load_mid rfl ty x rfl b o hx ks d hc hu hd hi h
theorem gJ (ks:Array Value) (hs:Sat w0 w L) (hx:a.eval x = .pointer (some ⟨b,0,none⟩)) (hy:a.eval y = .agg ks) (hsz:ks.size=cs.size) (u:oI (pt b (.cells cs T (0,0))) (pt b (.cells ks T (0,0))) L L')
  (hi:(P.info? ty).map (·.size)=some ks.size) (h1:ks.toList.all (·.oneCell')=true)
  (hK:∀ w',Sat w0 w' L'→wpList P ops Q rest (a.put dst undef) w'):wpList P ops Q (⟨dst,.store ty x y,t,pos,after,none⟩::rest) a w:=
 fG hs hx hy (qR (by
  show (eu cs 0 ks.toList).toList=_;rw [lg _ _ _ (by rw [acJ];omega),adH,adl,acT,adp (by rw [acJ,acJ];omega),acM])) u (by show 0+ks.size≤cs.size;omega) hi h1 hK
end
abbrev JV (q:Seg.aU):Value:= .agg #[.int .i64 q.seg,.int .i64 q.at_,.int .i64 q.size]
theorem GZ:jr Tryz.prog 94=some (.agg #[.int .i64 0,.int .i64 0,.int .i64 0]):=by kernel_rfl
structure Iw (l:List (Int×Int)) (n cap:Nat) (cs:Array Value):Prop where
 len:l.length=n+1
 le:n+1≤cap
 size:cap * 2≤cs.size
 max:cap≤maxLen
 take:cs.toList.take ((n+1) * 2)=eF l
theorem alo (l:List (Int×Int)) (s:Int×Int) (z:Int):(eF (l++[s])).set (l.length * 2+1) (.int .i64 z)=eF (l++[(s.1,z)]):=by
 rw [Bz,Bz];rw [List.set_append_right _ _ (by rw [kT];omega),kT,show l.length * 2+1 - 2 * l.length=1 by omega]
 rfl
theorem alv {α:Type} (l:List α) (k i:Nat) (x:α) (h:i<k):(l.set i x).take k=(l.take k).set i x:=by
 rw [List.take_set]
section
variable {w0 w:World}{F R:List aH}{v bv dv x lv:Value}{q p m K:Nat}{L:Seg.Log}{M:ay}{s:Int×Int}
theorem Rk (hl:L.l.getLast?=some s) (h:Sat w0 w (Cb p m L lv++F)) :
  ∃ bk n cap cs,lv = .slice (some ⟨bk,0,none⟩) (n+1) cap∧Iw L.l n cap cs∧cs[n * 2]?=some (.int .i64 s.1)∧cs[n * 2+1]?=some (.int .i64 s.2) ∧
   Sat w0 w (mF p m L (.slice (some ⟨bk,0,none⟩) (n+1) cap)::pt bk (.cells cs 105 (0,0))::F):=by
 rw [adv]at hl;have hlt:=(abW.1 hl).1;obtain ⟨n,hn⟩:∃ n,L.l.length=n+1:=⟨L.l.length - 1,by omega⟩;rw [hn,Nat.add_sub_cancel]at hl;obtain ⟨h1,h2⟩:=KD _ _ _ hl;have hS:Sat w0 w (aB 105 2 lv (eF L.l)::mF p m L lv::F):=h.aY;rcases hS.kP with ⟨rfl,hx,_⟩|⟨b,n',cap,cs,rfl,hll,hn',hc,hcm,htk,hp⟩
 ·rw [hx]at h1;simp at h1
 ·rw [kT,hn]at hll;obtain rfl:n'=n+1:=by omega
  refine ⟨b,n,cap,cs,rfl,⟨hn,hn',hc,hcm,htk⟩,?_,?_,hp.aY⟩
  ·rw [ahC];exact mZ htk h1
  ·rw [ahC];exact mZ htk h2
theorem Rl {bk n cap:Nat}{cs:Array Value} (hb:Iw L.l n cap cs) (h:Sat w0 w (pt bk (.cells cs 105 (0,0))::R)) :
  Sat w0 w (aB 105 2 (.slice (some ⟨bk,0,none⟩) (n+1) cap) (eF L.l)::R):=
 Sat.kR h (by rw [kT,hb.len];omega) hb.le hb.size hb.max hb.take
theorem seg_close {bk n cap:Nat}{cs:Array Value} (hl:L.l.getLast?=some s) (hb:Iw L.l n cap cs) (z:Int)
  (h:Sat w0 w (pt bk (.cells (eu cs (n * 2+1) [.int .i64 z]) 105 (0,0))::R)) :
  Sat w0 w (aB 105 2 (.slice (some ⟨bk,0,none⟩) (n+1) cap) (eF (L.l.dropLast++[(s.1,z)]))::R):=by
 have e:=Seg.FU hl;have hlen:=Seg.Pe hl;have hn:=hb.len;refine Sat.kR h ?_ hb.le ?_ hb.max ?_
 ·rw [kT,aaK,ac7];omega
 ·rw [kE];exact hb.size
 ·simp only [eu,Array.toList_setIfInBounds];rw [alv _ _ _ _ oQ,hb.take,e,List.dropLast_append_cons,show n=L.l.dropLast.length by omega];simp only [List.dropLast_singleton,acM];exact alo _ _ _
theorem agG (hl:L.l.getLast?=some s) (hs:0≤s.2∧s.2≤33554432) (hM:M.Ok K) (jW:K≤1099511627776) (hlen:L.l.length≤1048576) (b:Bs) (hbl:b.length≤1073741824) (hr:Ro w0 F (bG 1 bv (aA b)))
  (h:Sat w0 w (aK p m L::aJ m M::F)) :
  Calls Tryz.prog 126 #[ptr p,bv] w (aP fun v w'=>v = .tuple #[JV (L.grow M b).2.1,errno (L.grow M b).2.2] ∧
   Sat w0 w' (aK p m (L.grow M b).1.1::aJ m (L.grow M b).1.2::F)):=by
 obtain ⟨lv,hR⟩:=aK.open h;clear h;obtain ⟨bk,n,cap,cs,rfl,hb,c0,c1,hS⟩:=Rk hl hR;clear hR;obtain ⟨ba,bn,bc,rfl,hbn⟩:=Gs hr (A:=emp) (Sat.emp.2 (hS.sel 3 [] rfl rfl));subst hbn
 have Hg:=uQ (show L.grow M b=if (M.append (Seg.name s.1) b).2=0 then (({ L with l:=L.l.dropLast++[(s.1,s.2+(b.length:Int))] },(M.append (Seg.name s.1) b).1),⟨s.1,s.2,b.length⟩,0)
  else ((L,(M.append (Seg.name s.1) b).1),Seg.aU.zero,(M.append (Seg.name s.1) b).2) by unfold Seg.Log.grow;rw [hl])
 have hn:=hb.len;have Hb:=uQ hb;have Hr:=uQ hr;have Hl:=uQ hl;have Hs:=uQ hs;have wX:=uQ c0;have Hc1:=uQ c1;have lW:=uQ hbl;have hn0:(n:Int)<(n:Int)+1:=oQ;have hwn:IntKind.i64.wrap (n:Int)=(n:Int):=by rw [adL];omega
 have hwz:IntKind.i64.wrap (s.2+(b.length:Int))=s.2+(b.length:Int):=by rw [adL];omega
 have Hwz:=uQ hwz;clear hn hb hr hl hs c0 c1 hbl hlen hwz;go_enter Tryz.func126,Tryz.ntmps126;go_wp2_with (refine fF GZ aQ rfl ?_;intro q w1 hS1);refine dS [10,11] (fun w'=>w'.cell? ⟨p,2,none⟩=some (.slice (some ⟨bk,0,none⟩) (n+1) cap)) au ?_;have hG:w1.drew.cell? ⟨p,2,none⟩=some (.slice (some ⟨bk,0,none⟩) (n+1) cap):=hS1.drew.cellP bC 2 rfl;refine rP 0 ?_ (y:=aZ);refine rP 1 ?_ (y:=dV);refine rP 2 ?_ (y:=bW);refine rt 3 (h:=?_);refine rP 4 ?_ (y:=aZ);refine rP 5 ?_ (y:=dV);refine rP 6 ?_ (y:=bW);refine rt 7 (h:=?_);refine rP 8 ?_ (y:=(o8 ak bU));refine rP 9 ?_ (y:=kM);refine rP 10 ?_ (y:=jf);refine rP 11 ?_ (y:=fZ);refine dI au ?_;clear hG;have hS2:=hS1.drew;generalize w1.drew=w2 at *
 clear hS1 hS;go_wp2_with fail;refine dS [10,11] (fun w'=>w'.cell? ⟨p,0,none⟩=some (ptr m)∧w'.cell? ⟨bk,n * 2,none⟩=some (.int .i64 s.1)) au ?_;have hG:w2.drew.cell? ⟨p,0,none⟩=some (ptr m)∧w2.drew.cell? ⟨bk,n * 2,none⟩=some (.int .i64 s.1):=⟨hS2.drew.cellP bC 0 rfl,hS2.drew.cellP bC _ wX.out⟩;refine rP 0 ?_ (y:=aZ);refine rP 1 ?_ (y:=dV);refine rP 2 ?_ (y:=bW);refine rt 3 (h:=?_);refine rP 4 ?_ (y:=aZ);refine rP 5 ?_ (y:=dV);refine rP 6 ?_ (y:=bW);refine rt 7 (h:=?_);refine rP 9 ?_ (y:=aZ);refine bY 8 ak au (fun K hK=>?_);clear hG
 (refine oJ au ak ?_)
 refine (yQ s.1 hS2.drew).mono ?_;rintro e w3 ⟨v,rfl,rfl,hS3⟩;refine hK _ _ (.inr (.inl ⟨hS3.cellP bC 0 rfl,hS3.cellP bC _ wX.out⟩)) ?_;clear hK K;refine bY 10 ak au (fun K hK=>?_)
 (refine xM au ak ak ak ?_)
 refine (IG hM jW (Sat.pk aQ) _ b (by first|assumption|exact Ro.op (Ro.bK _ _)|exact Ro.os aQ)).mono ?_;rintro e w4 ⟨v,rfl,rfl,hS4⟩;refine hK _ _ (.inl rfl) ?_;clear hK K;refine rP 11 ?_ (y:=fZ);refine dI au ?_;clear hS3 hS2 Hr;generalize M.append (Seg.name s.1) b=r at *
 obtain ⟨M2,ee⟩:=r;by_cases he:ee=0
 ·subst he;have hfin:=uQ (Hg.out.trans (acr rfl));have e1:w4.cell? ⟨bk,n * 2+1,none⟩=some (.int .i64 s.2):=hS4.cellP bC _ Hc1.out;have hfit:=Hb.out.size;have hle:=Hb.out.le;have hst:=uQ (show n * 2+1+(Value.int .i64 (s.2+(b.length:Int))).cells.size≤cs.size by show n * 2+1+1≤cs.size;omega);have hwz:=Hwz.out;clear hfit hle;go_wp2_with (refine am0 aj ?_);refine ⟨fG (b:=bk) (o:=n * 2+1) (v:= .int .i64 (s.2+(b.length:Int))) aQ aj aj rfl eX hst.out au aj ?_⟩;intro w5 hS5
  have e0:w5.cell? ⟨bk,n * 2,none⟩=some (.int .i64 s.1):=hS5.cellP bC _ (by
   show (cs.setIfInBounds (n * 2+1) _)[n * 2]?=_;rw [aof oQ];exact wX.out)
  clear e1 hst hwz;go_wp2_with ((with_reducible refine cO ⟨?_⟩);refine fG aQ aj ak pQ eX bJ au aj ?_;intro wS hS);refine ⟨rfl,_,og rfl aQ aj bC Tryz.underlying94 rfl au,_,rfl,?_,?_⟩
  ·rw [hfin.out];rfl
  ·rw [hfin.out];have h6:=seg_close Hl.out Hb.out _ (Sat.pk hS);exact aK.shut2 (lv:= .slice (some ⟨bk,0,none⟩) (n+1) cap) (Sat.sb h6)
 ·have heb:(ee==0)=false:=ahB he;have hfin:=uQ (Hg.out.trans (abA he));clear he;go_wp2_with ((with_reducible refine cO ⟨?_⟩);refine fG aQ aj ak pQ eX bJ au aj ?_;intro wS hS);refine ⟨rfl,_,og rfl aQ aj bC Tryz.underlying94 rfl au,_,rfl,?_,?_⟩
  ·rw [hfin.out];rfl
  ·rw [hfin.out];have h6:=Rl Hb.out (Sat.pk hS);exact aK.shut2 (lv:= .slice (some ⟨bk,0,none⟩) (n+1) cap) (Sat.sb h6)
end
end Go.Proofs.YtihngncbioofnaaGreatDoor
namespace Go.Seg
open Go.ay
theorem Log.abf {L:Log} (M:ay) (h:L.on=false):L.shut M=((L,M),0):=by
 unfold Log.shut;split
 ·rfl
 ·rw [abA (by rw [h];decide)]
theorem Log.Ok.last {L:Log} (h:L.Ok) (hon:L.on=true):∃ s,L.l.getLast?=some s:=by
 cases hl:L.l.getLast? with
 |none=>exact absurd (ank.1 hl) (h.on hon)
 |some s=>exact ⟨s,rfl⟩
theorem Log.abg {L:Log} (M:ay){s:Int×Int} (hl:L.l.getLast?=some s) (h:L.on=true) :
  L.shut M=if (M.sync (name s.1)).2=0 then (({ L with on:=false },(M.sync (name s.1)).1),0) else ((L,(M.sync (name s.1)).1),(M.sync (name s.1)).2):=by
 unfold Log.shut;rw [hl];simp only [h,anJ]
end Go.Seg
namespace Go.Proofs.YtihngncbioofnaaGreatDoor
open Go Go.Sl Go.ay Go.MapKept Go.RowKit
section
variable {w0 w:World}{F R:List aH}{v bv dv x lv:Value}{q p m K:Nat}{L:Seg.Log}{M:ay}{s:Int×Int}
theorem alA (hL:L.Ok) (hM:M.Ok K) (h:Sat w0 w (aK p m L::aJ m M::F)) :
  Calls Tryz.prog 170 #[ptr p] w (aP fun v w'=>v=errno (L.shut M).2∧Sat w0 w' (aK p m (L.shut M).1.1::aJ m (L.shut M).1.2::F)):=by
 cases hon:L.on
 ·obtain ⟨lv,hR⟩:=aK.open h;refine (alx hon hR).mono ?_;rintro e w1 ⟨v,rfl,rfl,rfl⟩;rw [Seg.Log.abf M hon];exact ⟨_,rfl,rfl,h⟩
 ·obtain ⟨s,hl⟩:=hL.last hon;obtain ⟨lv,hR⟩:=aK.open h;clear h;have hlen:=hL.len;obtain ⟨bk,n,cap,cs,rfl,hb,c0,c1,hS⟩:=Rk hl hR;clear hR c1;have hn:=hb.len;have Hg:=uQ (Seg.Log.abg M hl hon);have Hb:=uQ hb;have Hl:=uQ hl;have wX:=uQ c0;have hn0:(n:Int)<(n:Int)+1:=oQ;have hwn:IntKind.i64.wrap (n:Int)=(n:Int):=by rw [adL];omega
  have e3:w.cell? ⟨p,3,none⟩=some (.bool true):=hS.cellP bC 3 (by rw [← hon];rfl);clear hn hb hl c0 hlen hon;go_enter Tryz.func170,Tryz.ntmps170;go_wp2_with fail;refine dS [18,19] (fun w'=>w'.cell? ⟨p,0,none⟩=some (ptr m)∧w'.cell? ⟨p,2,none⟩=some (.slice (some ⟨bk,0,none⟩) (n+1) cap)∧w'.cell? ⟨bk,n * 2,none⟩=some (.int .i64 s.1)) au ?_;have hG:w.drew.cell? ⟨p,0,none⟩=some (ptr m)∧w.drew.cell? ⟨p,2,none⟩=some (.slice (some ⟨bk,0,none⟩) (n+1) cap)∧w.drew.cell? ⟨bk,n * 2,none⟩=some (.int .i64 s.1):=⟨hS.drew.cellP bC 0 rfl,hS.drew.cellP bC 2 rfl,hS.drew.cellP bC _ wX.out⟩;refine rP 0 ?_ (y:=aZ);refine rP 1 ?_ (y:=dV);refine rP 2 ?_ (y:=bW);refine rt 3 (h:=?_);refine rP 4 ?_ (y:=aZ);refine rP 5 ?_ (y:=dV);refine rP 6 ?_ (y:=bW);refine rt 7 (h:=?_);refine rP 8 ?_ (y:=aZ);refine rP 9 ?_ (y:=dV);refine rP 10 ?_ (y:=bW);refine rt 11 (h:=?_)
  refine rP 12 ?_ (y:=(o8 ak bU));refine rP 13 ?_ (y:=kM);refine rP 14 ?_ (y:=jf);refine rP 15 ?_ (y:=bW);refine rt 16 (h:=?_);clear hG e3;refine bY 17 ak au (fun K hK=>?_)
  (refine oJ au ak ?_)
  refine (yQ s.1 hS.drew).mono ?_;rintro e w3 ⟨v,rfl,rfl,hS3⟩;refine hK _ _ (.inr (.inl ⟨hS3.cellP bC 0 rfl,hS3.cellP bC 2 rfl,hS3.cellP bC _ wX.out⟩)) ?_;clear hK K;refine bY 18 ak au (fun K hK=>?_)
  (refine gZ au ak ak ?_)
  refine (KN hM (Sat.pk aQ) _).mono ?_;rintro e w4 ⟨v,rfl,rfl,hS4⟩;refine hK _ _ (.inl rfl) ?_;clear hK K;refine rP 19 ?_ (y:=fZ);refine dI au ?_;clear hS3 hS;generalize M.sync (Seg.name s.1)=r at *
  obtain ⟨M2,ee⟩:=r;by_cases he:ee=0
  ·subst he;have hfin:=uQ (Hg.out.trans (acr rfl));go_wp2_with ((with_reducible refine cO ⟨?_⟩);refine fG aQ aj ak pQ eX bJ au aj ?_;intro wS hS);go_ret;refine ⟨errno 0,rfl,by rw [hfin.out],?_⟩;rw [hfin.out];have h6:=Rl Hb.out (Sat.pk hS);exact aK.shut2 (lv:= .slice (some ⟨bk,0,none⟩) (n+1) cap) (Sat.sb h6)
  ·have heb:(ee==0)=false:=ahB he;have hfin:=uQ (Hg.out.trans (abA he));clear he;go_wp2_with ((with_reducible refine cO ⟨?_⟩);refine fG aQ aj ak pQ eX bJ au aj ?_;intro wS hS);go_ret;refine ⟨errno ee,rfl,by rw [hfin.out],?_⟩;rw [hfin.out];have h6:=Rl Hb.out (Sat.pk hS4);exact aK.shut2 (lv:= .slice (some ⟨bk,0,none⟩) (n+1) cap) (Sat.sb h6)
end
end Go.Proofs.YtihngncbioofnaaGreatDoor
namespace Go.Seg
open Go.ay
theorem Log.Rq {L:Log}{M:ay}{K:Nat} (h:M.Ok K):(L.shut M).1.2.Ok (K+1):=by
 unfold Log.shut;split;· exact h.mono (ahD K)
 split
 ·split <;> exact h.sync _
 ·exact h.mono (ahD K)
theorem Log.aep (L:Log) (M:ay) (b:Bs):L.begin M b=if (L.shut M).2=0 then (L.shut M).1.1.jw (L.shut M).1.2 b else ((L.shut M).1,aU.zero,(L.shut M).2):=rfl
theorem JF (n:Int):(name n).size≤9223372036854775807:=by
 unfold name;split
 ·decide
 ·show (lead++iO n.toNat 8).toArray.size≤_;rw [abX,aaK,vU];decide
end Go.Seg
namespace Go.Proofs.YtihngncbioofnaaGreatDoor
open Go Go.Sl Go.ay Go.MapKept Go.RowKit
section
variable {w0 w:World}{F R:List aH}{v bv dv x lv:Value}{q p m K:Nat}{L:Seg.Log}{M:ay}{s:Int×Int}
theorem ah7 (hL:L.Ok) (h:Sat w0 w (aK p m L::F)) :
  Calls Tryz.prog 171 #[ptr p] w (aP fun v w'=>v = .int .i64 L.next∧Sat w0 w' (aK p m L::F)):=by
 obtain ⟨lv,hR⟩:=aK.open h;refine (alH hL.len hL.nums hR).mono ?_;rintro e w1 ⟨v,rfl,rfl,hS⟩;exact ⟨_,rfl,rfl,aK.shut2 hS⟩
theorem alp (l:List (Int×Int)) (n z:Int):eF l++[.int .i64 n,.int .i64 z]=eF (l++[(n,z)]):=by rw [Bz];rfl
theorem Vl (hL:L.Ok) (hM:M.Ok K) (jW:K+4≤1099511627776) (b:Bs) (hb0:b≠[]) (hbl:b.length≤16777216) (hr:Ro w0 F (bG 1 bv (aA b)))
  (h:Sat w0 w (aK p m L::aJ m M::F)) :
  Calls Tryz.prog 127 #[ptr p,bv] w (aP fun v w'=>v = .tuple #[JV (L.begin M b).2.1,errno (L.begin M b).2.2] ∧
   Sat w0 w' (aK p m (L.begin M b).1.1::aJ m (L.begin M b).1.2::F)):=by
 obtain ⟨ba,bn,bc,rfl,hbn⟩:=Gs hr (A:=emp) (Sat.emp.2 (h.sel 2 [] rfl rfl));subst hbn;obtain ⟨i,hi,hz0,hz1,hz2⟩:=uK;have Hg:=uQ (Seg.Log.aep L M b);have HM:=uQ (Seg.Log.Rq (L:=L) hM);have HL:=uQ (hL.shut M);have Hr:=uQ hr;have Hb0:=uQ hb0;have lW:=uQ hbl;clear hr hb0 hbl;go_enter Tryz.func127,Tryz.ntmps127;go_wp2_with (refine fF GZ aQ rfl ?_;intro q w1 hS1);refine (alA hL hM (Sat.sb aQ)).mono ?_;rintro e w2 ⟨v,rfl,rfl,hS2⟩;clear hS1 h hL hM;generalize L.shut M=S at *
 obtain ⟨⟨L1,M1⟩,e1⟩:=S;by_cases he:e1=0;rotate_left
 ·have heb:(e1==0)=false:=ahB he;have hfin:=uQ (Hg.out.trans (abA he));clear he;go_wp2_with ((with_reducible refine cO ⟨?_⟩);refine fG aQ aj ak pQ eX bJ au aj ?_;intro wS hS);refine ⟨rfl,_,og rfl aQ aj bC Tryz.underlying94 rfl au,_,rfl,?_,?_⟩
  ·rw [hfin.out];rfl
  ·rw [hfin.out];exact Sat.sb hS
 subst he;have H1:=uQ (Hg.out.trans (acr rfl));clear Hg;go_wp2_with fail;refine (ah7 HL.out (Sat.pk aQ)).mono ?_;rintro e w3 ⟨v,rfl,rfl,hS3⟩;clear hS2;have hs1:=uQ HL.out.next;have hfr:=uQ HL.out.fresh;have hln:=uQ HL.out.len;unfold Seg.Log.jw at H1;have Io:=uQ (Seg.JF L1.next);by_cases hn:1048576≤L1.next
 ·have hfin:=uQ (H1.out.trans (acr hn));generalize L1.next=n at *
  go_wp2_with ((with_reducible refine cO ⟨?_⟩);refine fG aQ aj ak pQ eX bJ au aj ?_;intro wS hS);refine ⟨rfl,_,og rfl aQ aj bC Tryz.underlying94 rfl au,_,rfl,?_,?_⟩
  ·rw [hfin.out];rfl
  ·rw [hfin.out];exact Sat.sb hS
 have H2:=uQ (H1.out.trans (abA hn));clear H1;have Hn:=uQ hn;have hnd:¬ 1048576≤L1.next:=hn;clear hn;have hnm:=yQ L1.next hS3;generalize hnn:L1.next=n at *
 have MF:=uQ hnn;clear hnn;go_wp2_with fail;refine hnm.mono ?_;rintro e w4 ⟨v,rfl,rfl,hS4⟩;clear hnm hS3 hnd;generalize Seg.name n=nm at *
 obtain ⟨lv,hR⟩:=aK.oW (Sat.pk aQ);have e0:w4.cell? ⟨p,0,none⟩=some (ptr m):=hR.cellP bC 0 rfl;go_wp2_with fail;refine (NR HM.out oQ (Sat.pk aQ) nm Io.out).mono ?_;rintro e w5 ⟨v,rfl,rfl,hS5⟩;have uh:=uQ (HM.out.create nm);clear hS4 hR e0;generalize M1.create nm=C at *
 obtain ⟨M2,e2⟩:=C;by_cases he:e2=0;rotate_left
 ·have heb:(e2==0)=false:=ahB he;have hfin:=uQ (H2.out.trans (acr he));clear he;go_wp2_with ((with_reducible refine cO ⟨?_⟩);refine fG aQ aj ak pQ eX bJ au aj ?_;intro wS hS);refine ⟨rfl,_,og rfl aQ aj bC Tryz.underlying94 rfl au,_,rfl,?_,?_⟩
  ·rw [hfin.out];rfl
  ·rw [hfin.out];exact aK.shut2 (lv:=lv) (Sat.sb hS)
 subst he;have H3:=uQ (H2.out.trans (abA (fun h=>h rfl)));clear H2;go_wp2_with fail;refine dS [9,10] (fun w'=>w'.cell? ⟨p,0,none⟩=some (ptr m)) au ?_;have hG:w5.drew.cell? ⟨p,0,none⟩=some (ptr m):=hS5.drew.cellP bC 0 rfl;refine rP 0 ?_ (y:=aZ);refine rP 1 ?_ (y:=dV);refine rP 2 ?_ (y:=bW);refine rt 3 (h:=?_);refine rP 4 ?_ (y:=aZ);refine rP 7 ?_ (y:=aZ);refine bY 5 ak au (fun K hK=>?_);go_simp;have hB1:=hS5.drew.alloc (.cells #[.int .u8 72,.int .u8 79,.int .u8 65,.int .u8 82,.int .u8 68,.int .u8 83,.int .u8 69,.int .u8 71] 5);refine hK _ _ (.inr (.inl (hB1.cellP bC 0 rfl))) ?_;clear hK K hG hB1;refine bY 6 ak au (fun K hK=>?_)
 have hcv:(convert 39 39 (.slice (some ⟨w5.heap.size,0,none⟩) 8 8)).run Tryz.prog ((w5.alloc (.cells #[.int .u8 72,.int .u8 79,.int .u8 65,.int .u8 82,.int .u8 68,.int .u8 83,.int .u8 69,.int .u8 71] 5)).drew) = .ok (.slice (some ⟨w5.heap.size,0,none⟩) 8 8) ((w5.alloc (.cells #[.int .u8 72,.int .u8 79,.int .u8 65,.int .u8 82,.int .u8 68,.int .u8 83,.int .u8 69,.int .u8 71] 5 (8,9))).drew):=
  Lib.run_convert_bytes_const (P:=Tryz.prog) w5.drew 39 5 #[.int .u8 72,.int .u8 79,.int .u8 65,.int .u8 82,.int .u8 68,.int .u8 83,.int .u8 69,.int .u8 71] 8 8 Tryz.underlying39 Tryz.underlying5
 have hB:=(hS5.alloc (.cells #[.int .u8 72,.int .u8 79,.int .u8 65,.int .u8 82,.int .u8 68,.int .u8 83,.int .u8 69,.int .u8 71] 5 (8,9))).drew;go_simp;refine hK _ _ (.inr (.inl (hB.cellP bC 0 rfl))) ?_;clear hK K;have hrd:=Hr.out _ (hB.sb);have hold:bG 1 (.slice (some ⟨w5.heap.size,0,none⟩) 8 8) (aA Seg.mag) ((w5.alloc (.cells #[.int .u8 72,.int .u8 79,.int .u8 65,.int .u8 82,.int .u8 68,.int .u8 83,.int .u8 69,.int .u8 71] 5 (8,9))).drew):=by
  refine ⟨_,8,8,rfl,rfl,fun j x hj=>⟨_,rfl,?_⟩⟩;rw [qO];have hjl:j<Seg.mag.length:=by
   have:=(abW.1 hj).1;rw [aX]at this;exact this
  have hx:=(JE (l:=Seg.mag) hB hjl 0).1;unfold aA at hj;rw [acE,aaI hjl]at hj;cases hj;exact hx
 have hy0:aA b≠[]:=by
  intro h;apply Hb0.out;unfold aA at h;exact List.map_eq_nil_iff.1 h
 have h63:(aA Seg.mag).length+(aA b).length≤maxLen:=by rw [aX,aX];have:=lW.out;unfold maxLen Seg.mag;simp;omega
 have hby:((aA Seg.mag).length+(aA b).length) * i.bytes≤140737488355328:=by rw [aX,aX,hz2];have:=lW.out;unfold Seg.mag;simp;omega
 refine bY 8 ak au (fun K hK=>?_);refine alU (w0:=w0) (xs:=aA Seg.mag) (b:=w5.heap.size) (n:=8) (cap:=8) aj _ _ _ aj _ i _ Tryz.underlying39 hi hz0 hz1 aj rfl (abL _) hold hB.drop aj aj hrd hy0 h63 hby ?_;intro b4 n4 k4 w6 hS6;clear hcv hrd hold hy0 h63 hby hB;have hS6:Sat w0 w6 (bK (.slice (some ⟨b4,0,none⟩) n4 k4) (Seg.mag++b)::aJ m M2::pt q (.cells #[.int .i64 0,.int .i64 0,.int .i64 0] 94)::mF p m L1 lv::aB 105 2 lv (eF L1.l)::F):=by
  have e:aA Seg.mag++aA b=aA (Seg.mag++b):=by unfold aA;rw [acI]
  rw [e]at hS6;exact Sat.sb hS6
 refine hK _ _ (.inr (.inl (hS6.cellP bC 0 rfl))) ?_;clear hK K hS5;refine bY 9 ak au (fun K hK=>?_)
 (refine xM au ak ak ak ?_)
 refine (IG uh.out oQ (Sat.pk aQ) nm (Seg.mag++b) (by first|assumption|exact Ro.op (Ro.bK _ _)|exact Ro.os aQ)).mono ?_;rintro e w7 ⟨v,rfl,rfl,hS7⟩;refine hK _ _ (.inl rfl) ?_;clear hK K;refine rP 10 ?_ (y:=fZ);refine dI au ?_;clear hS6;have HM3:=uQ (uh.out.append nm (Seg.mag++b));generalize M2.append nm (Seg.mag++b)=D at *
 obtain ⟨M3,e3⟩:=D;by_cases he:e3=0
 ·subst he;have hfin:=uQ (H3.out.trans (acr rfl));have c2:w7.cell? ⟨p,2,none⟩=some lv:=hS7.cellP bC 2 rfl;have hwl:IntKind.i64.wrap (8+(b.length:Int))=8+(b.length:Int):=by rw [adL];have:=lW.out;omega
  obtain ⟨ii,hii,hy0,hy1,hy2⟩:=info_parts Yx;have h7:=hS7.alloc (.cells #[.int .i64 n,.int .i64 (8+(b.length:Int))] 105);have hoc:∀ u∈(#[.int .i64 n,.int .i64 (8+(b.length:Int))]:Array Value).toList,u.oneCell'=true:=by
   intro u hu;simp only [acK,ag0,aoj]at hu;rcases hu with rfl|rfl <;> rfl
  have h63:(eF L1.l).length+2≤maxLen:=by rw [kT];have:=hln.out;unfold maxLen;omega
  have hby:((eF L1.l).length+2) * ii.bytes≤140737488355328:=by rw [kT,hy2];have:=hln.out;omega
  have h8:Sat w0 _ (aB 105 2 lv (eF L1.l)::mF p m L1 lv::pt q (.cells #[.int .i64 0,.int .i64 0,.int .i64 0] 94)::aJ m M3::F):=h7.sb;have hwf:IntKind.i64.wrap (L1.fresh+1)=L1.fresh+1:=by rw [adL];have:=hfr.out;have:=hln.out;omega
  go_wp2_with (first
   |(at_builtin;refine y7 (w0:=w0) aj _ _ _ aj _ ii _ Tryz.underlying97 hii hy0 hy1 aj oQ aj aj hoc h8 (Bl _ _ _ 2 1 1 aj) h63 hby ?_;intro v2 w8 jE hne;obtain ⟨ab,an,ac,rfl⟩:=hne (by simp);clear h8 h7 hS7 c2 hoc h63 hby hne)
   |((with_reducible refine bI ⟨?_⟩);refine gu aQ aj bC bJ ak au ?_)|((with_reducible refine cO ⟨?_⟩);refine fG aQ aj ak pQ eX bJ au aj ?_;intro wS hS))
  refine ⟨rfl,_,og rfl aQ aj bC Tryz.underlying94 rfl au,_,rfl,?_,?_⟩
  ·rw [hfin.out];rfl
  ·rw [hfin.out];have e:eF L1.l++[.int .i64 n,.int .i64 (8+(b.length:Int))]=eF (L1.l++[(n,8+(b.length:Int))]):=alp _ _ _;rw [e]at hS;exact aK.shut2 (lv:= .slice (some ⟨ab,0,none⟩) an ac) (Sat.sb hS)
 have H4:=uQ (H3.out.trans (abA he));have heb:(e3==0)=false:=ahB he;clear he H3;by_cases he:e3=11
 ·subst he;have H5:=uQ (H4.out.trans (acr rfl));have e0:w7.cell? ⟨p,0,none⟩=some (ptr m):=hS7.cellP bC 0 rfl;go_wp2_with fail;refine (Du HM3.out oQ (Sat.pk aQ) nm).mono ?_;rintro e w8 ⟨v,rfl,rfl,jE⟩;clear hS7 e0;generalize M3.remove nm=E at *
  obtain ⟨M4,e4⟩:=E;by_cases he:e4=0
  ·subst he;go_wp2_with ((with_reducible refine cO ⟨?_⟩);refine fG aQ aj ak pQ eX bJ au aj ?_;intro wS hS);refine ⟨rfl,_,og rfl aQ aj bC Tryz.underlying94 rfl au,_,rfl,?_,?_⟩
   ·rw [H5.out];rfl
   ·rw [H5.out];exact aK.shut2 (lv:=lv) (Sat.sb hS)
  ·have heb:(e4==0)=false:=ahB he;have H6:=uQ (H5.out.trans (by rw [abA he]));clear he;go_wp2_with ((with_reducible refine cO ⟨?_⟩);refine fG aQ aj ak pQ eX bJ au aj ?_;intro wS hS);refine ⟨rfl,_,og rfl aQ aj bC Tryz.underlying94 rfl au,_,rfl,?_,?_⟩
   ·rw [H6.out];rfl
   ·rw [H6.out];exact aK.shut2 (lv:=lv) (Sat.sb hS)
 ·have hfin:=uQ (H4.out.trans (abA he));have anx:(e3==11)=false:=ahB he;clear he H4;go_wp2_with ((with_reducible refine cO ⟨?_⟩);refine fG aQ aj ak pQ eX bJ au aj ?_;intro wS hS);refine ⟨rfl,_,og rfl aQ aj bC Tryz.underlying94 rfl au,_,rfl,?_,?_⟩
  ·rw [hfin.out];rfl
  ·rw [hfin.out];exact aK.shut2 (lv:=lv) (Sat.sb hS)
end
end Go.Proofs.YtihngncbioofnaaGreatDoor
namespace Go.Seg
open Go.ay
theorem Ws (x:ah.aG) (h:(ah.encode x).2=0):(ah.encode x).1≠[]:=by
 unfold ah.encode at *
 split at h
 ·rename_i hc;exact absurd h hc
 ·rename_i hc;rw [abA hc];intro e;have:=adu List.length e;simp [ah.kJ]at this
theorem Log.IE {L:Log}{M:ay}{x:ah.aG} (h:(ah.encode x).2≠0):L.append M x=((L,M),aU.zero,(ah.encode x).2):=by
 unfold Log.append;rw [acr h]
theorem Log.zL {L:Log}{M:ay}{x:ah.aG} (h:(ah.encode x).2=0) (hf:L.fits (ah.encode x).1.length=true):L.append M x=L.grow M (ah.encode x).1:=by
 unfold Log.append;rw [abA (fun hh=>hh h),acr hf]
theorem Log.xF {L:Log}{M:ay}{x:ah.aG} (h:(ah.encode x).2=0) (hf:L.fits (ah.encode x).1.length=false):L.append M x=L.begin M (ah.encode x).1:=by
 unfold Log.append;rw [abA (fun hh=>hh h),abA (by rw [hf];decide)]
theorem Log.af5 {L:Log} (n:Nat) (h:L.on=false):L.fits n=false:=by unfold Log.fits;rw [h];rfl
theorem Log.af6 {L:Log}{s:Int×Int} (n:Nat) (h:L.on=true) (hl:L.l.getLast?=some s):L.fits n=decide (s.2+n≤L.limit):=by
 unfold Log.fits;rw [h,hl];rfl
end Go.Seg
namespace Go.Proofs.YtihngncbioofnaaGreatDoor
open Go Go.Sl Go.ay Go.MapKept Go.RowKit
section
variable {w0 w:World}{F R:List aH}{v bv dv x lv:Value}{q p m K:Nat}{L:Seg.Log}{M:ay}{s:Int×Int}
theorem aa8 (hl:L.l.getLast?=some s) (h:Sat w0 w (mF p m L lv::aB 105 2 lv (eF L.l)::F)) :
  ∃ bk n cap cs,lv = .slice (some ⟨bk,0,none⟩) (n+1) cap∧Iw L.l n cap cs∧cs[n * 2]?=some (.int .i64 s.1)∧cs[n * 2+1]?=some (.int .i64 s.2) ∧
   Sat w0 w (mF p m L (.slice (some ⟨bk,0,none⟩) (n+1) cap)::pt bk (.cells cs 105 (0,0))::F):=Rk hl h
theorem Dc (e:ah.aG) (hk:e.key.length=32) (da:Option Addr) (dc:Nat) (hd:Ro w0 F (bG 1 (.slice da e.data.length dc) (aA e.data))) (hH:Ro w0 F Half) (sN:e.data.length≤1099511627)
  (hL:L.Ok) (hM:M.Ok K) (jW:K+4≤1099511627776) (h:Sat w0 w (aK p m L::aJ m M::F)) :
  Calls Tryz.prog 73 #[ptr p,.agg (dU e (.slice da e.data.length dc))] w (aP fun v w'=>v = .tuple #[JV (L.append M e).2.1,errno (L.append M e).2.2] ∧
   Sat w0 w' (aK p m (L.append M e).1.1::aJ m (L.append M e).1.2::F)):=by
 obtain ⟨lv,hR⟩:=aK.oW h;clear h;have hsz:=lT e (.slice da e.data.length dc) hk;have iC:=uQ hsz;have Hd:=uQ hd;have HH:=uQ hH;have Hk:=uQ hk;have HLd:=uQ sN;have HL:=uQ hL;have HM:=uQ hM;have jJ:=uQ hL.len;have Ec:=uQ (show (ah.encode e).1.length≤16425 from Seg.encode_len e hk);have qN:=uQ (Seg.Ws e);have A0:=uQ (Seg.Log.IE (L:=L) (M:=M) (x:=e));have A1:=uQ (Seg.Log.zL (L:=L) (M:=M) (x:=e));have A2:=uQ (Seg.Log.xF (L:=L) (M:=M) (x:=e));clear hsz hd hH hk sN hL hM;go_enter Tryz.func73,Tryz.ntmps73
 go_wp2_with (first
  |((with_reducible refine fK ⟨?_⟩);refine fM aQ aj (cs:=dU e (.slice da e.data.length dc)) rfl ?_;intro q3 w1 hS1)
  |(refine fF GZ aQ rfl ?_;intro q w2 hS2))
 refine (tu (Sat.pk aQ)).mono ?_;rintro ee w3 ⟨v,rfl,rfl,rfl⟩;clear hS1 hR;go_wp2_with ((with_reducible refine bI ⟨?_⟩);refine iW aQ aj bC Tryz.underlying52 aj (by rw [iC.out];kernel_rfl) ?_);refine (afE e Hk.out da dc (by first|assumption|exact Ro.op (Ro.bK _ _)|exact Ro.os aQ) (by first|assumption|exact Ro.op (Ro.bK _ _)|exact Ro.os aQ) hS2 HLd.out).mono ?_;rintro ee w3 ⟨v,rfl,bv,rfl,⟨ba,bn,bc,rfl⟩,hS3⟩;clear hS2;generalize hE:ah.encode e=E at *
 have HE:=uQ hE;clear hE;obtain ⟨b,e1⟩:=E;have Ic:Hid (b.length≤16425):=Ec;by_cases he:e1=0;rotate_left
 ·have heb:(e1==0)=false:=ahB he;have hfin:=uQ (A0.out he);clear he;go_wp2_with ((with_reducible refine cO ⟨?_⟩);refine fG aQ aj ak pQ eX bJ au aj ?_;intro wS hS);refine ⟨rfl,_,og rfl aQ aj bC Tryz.underlying94 rfl au,_,rfl,?_,?_⟩
  ·rw [hfin.out];rfl
  ·rw [hfin.out];exact aK.shut2 (lv:=lv) (Sat.sb hS)
 subst he;have hbn:bn=b.length:=by
  obtain ⟨a',n',c',he,hl,_⟩:=Sat.rd hS3;cases he;rw [aX,adb]at hl;exact hl.symm
 subst hbn;have Hb0:=uQ (qN.out rfl);clear A0 qN;cases hon:L.on
 ·have hf:=Seg.Log.af5 b.length hon;have hfin:=uQ (A2.out rfl hf);have c3:w3.cell? ⟨p,3,none⟩=some (.bool false):=hS3.cellP bC 3 (by rw [← hon];rfl);clear hf A1 A2 hon;go_wp2_with fail;have hS4:=hS3.drew;have c3':w3.drew.cell? ⟨p,3,none⟩=some (.bool false):=c3
  go_region
  clear c3 c3';have hS5:Sat w0 _ (aK p m L::aJ m M::_):=aK.shut2 (lv:=lv) (hS4.sb);go_wp2_with fail;refine (Vl HL.out HM.out jW b Hb0.out (by have:=Ic.out;omega) (by first|assumption|exact Ro.op (Ro.bK _ _)|exact Ro.os aQ) hS5).mono ?_;rintro ee w5 ⟨v,rfl,rfl,hS6⟩;clear hS4 hS5 hS3;go_wp2_with ((with_reducible refine cO ⟨?_⟩);refine fG aQ aj ak pQ eX bJ au aj ?_;intro wS hS);refine ⟨rfl,_,og rfl aQ aj bC Tryz.underlying94 rfl au,_,rfl,?_,?_⟩
  ·rw [hfin.out];rfl
  ·rw [hfin.out];exact Sat.sb hS
 ·obtain ⟨s,hl⟩:=HL.out.last hon;obtain ⟨bk,n,cap,cs,rfl,hb,c0,c1,hB⟩:=aa8 hl (hS3.sb);have hf:=Seg.Log.af6 b.length hon hl;have hs:=HL.out.sizes s (agv hl);have hlim:=HL.out.limit;have hn:=hb.len;have hln:=jJ.out;have hn0:(n:Int)<(n:Int)+1:=oQ;have hwn:IntKind.i64.wrap (n:Int)=(n:Int):=by rw [adL];omega
  have hwz:IntKind.i64.wrap (s.2+(b.length:Int))=s.2+(b.length:Int):=by rw [adL];have:=Ic.out;omega
  have g1:w3.drew.cell? ⟨p,1,none⟩=some (.int .i64 L.limit):=hB.drew.cellP bC 1 rfl;have g2:w3.drew.cell? ⟨p,2,none⟩=some (.slice (some ⟨bk,0,none⟩) (n+1) cap):=hB.drew.cellP bC 2 rfl;have g3:w3.drew.cell? ⟨p,3,none⟩=some (.bool true):=hB.drew.cellP bC 3 (by rw [← hon];rfl);have g4:w3.drew.cell? ⟨bk,n * 2+1,none⟩=some (.int .i64 s.2):=hB.drew.cellP bC _ c1;have Hl:=uQ hl;have Hb:=uQ hb;have Hs:=uQ hs;clear hs hlim hn hln hl hb c0 c1 hon hB;by_cases hfit:s.2+(b.length:Int)≤L.limit
  ·have hfd:decide (s.2+(b.length:Int)≤L.limit)=true:=adt hfit;have hfin:=uQ (A1.out rfl (hf.trans hfd));clear hf hfd A1 A2;go_wp2_with fail;have hS4:=hS3.drew
   go_region
   clear g1 g2 g3 g4;have hS5:Sat w0 _ (aK p m L::aJ m M::_):=aK.shut2 (lv:= .slice (some ⟨bk,0,none⟩) (n+1) cap) (hS4.sb);go_wp2_with fail;refine (agG Hl.out Hs.out HM.out oQ jJ.out b (by have:=Ic.out;omega) (by first|assumption|exact Ro.op (Ro.bK _ _)|exact Ro.os aQ) hS5).mono ?_;rintro ee w5 ⟨v,rfl,rfl,hS6⟩;clear hS4 hS5 hS3;go_wp2_with ((with_reducible refine cO ⟨?_⟩);refine fG aQ aj ak pQ eX bJ au aj ?_;intro wS hS);refine ⟨rfl,_,og rfl aQ aj bC Tryz.underlying94 rfl au,_,rfl,?_,?_⟩
   ·rw [hfin.out];rfl
   ·rw [hfin.out];exact Sat.sb hS
  ·have hfd:decide (s.2+(b.length:Int)≤L.limit)=false:=ac4 hfit;have hfin:=uQ (A2.out rfl (hf.trans hfd));clear hf hfd A1 A2;go_wp2_with fail;have hS4:=hS3.drew
   go_region
   clear g1 g2 g3 g4;have hS5:Sat w0 _ (aK p m L::aJ m M::_):=aK.shut2 (lv:= .slice (some ⟨bk,0,none⟩) (n+1) cap) (hS4.sb);go_wp2_with fail;refine (Vl HL.out HM.out jW b Hb0.out (by have:=Ic.out;omega) (by first|assumption|exact Ro.op (Ro.bK _ _)|exact Ro.os aQ) hS5).mono ?_;rintro ee w5 ⟨v,rfl,rfl,hS6⟩;clear hS4 hS5 hS3;go_wp2_with ((with_reducible refine cO ⟨?_⟩);refine fG aQ aj ak pQ eX bJ au aj ?_;intro wS hS);refine ⟨rfl,_,og rfl aQ aj bC Tryz.underlying94 rfl au,_,rfl,?_,?_⟩
   ·rw [hfin.out];rfl
   ·rw [hfin.out];exact Sat.sb hS
end
end Go.Proofs.YtihngncbioofnaaGreatDoor
namespace Go.Seg
open Go.ay
theorem Log.agH {L:Log}{M:ay}{K:Nat} (h:M.Ok K) (b:Bs):(L.grow M b).1.2.Ok (K+1):=by
 unfold Log.grow;split;· exact h.mono (ahD K)
 split <;> exact h.append _ _
theorem Log.aeo {L:Log}{M:ay}{K:Nat} (h:M.Ok K) (b:Bs):(L.jw M b).1.2.Ok (K+3):=by
 have h1:=h.create (name L.next);have h2:=h1.append (name L.next) (mag++b);have h3:=h2.remove (name L.next);unfold Log.jw;split;· exact h.mono oQ
 split;· exact h1.mono oQ
 split;· exact h2.mono oQ
 split;· exact h3
 exact h2.mono oQ
theorem Log.U1 {L:Log}{M:ay}{K:Nat} (h:M.Ok K) (x:ah.aG):(L.append M x).1.2.Ok (K+4):=by
 unfold Log.append;split;· exact h.mono oQ
 split;· exact (Log.agH h _).mono oQ
 unfold Log.begin;split
 ·exact Log.aeo (Log.Rq h) _
 ·exact (Log.Rq h).mono oQ
theorem Log.Cj (L:Log) (M:ay):L.commit M=if (L.append M bf).2.2≠0 then ((L.append M bf).1,0,(L.append M bf).2.2)
 else if ((L.append M bf).1.2.sync (name (L.append M bf).2.1.seg)).2≠0 then (((L.append M bf).1.1,((L.append M bf).1.2.sync (name (L.append M bf).2.1.seg)).1),0,((L.append M bf).1.2.sync (name (L.append M bf).2.1.seg)).2)
 else if (((L.append M bf).1.2.sync (name (L.append M bf).2.1.seg)).1.dR).2≠0 then (((L.append M bf).1.1,(((L.append M bf).1.2.sync (name (L.append M bf).2.1.seg)).1.dR).1),0,(((L.append M bf).1.2.sync (name (L.append M bf).2.1.seg)).1.dR).2)
 else (({ (L.append M bf).1.1 with on:=false,fresh:=0 },(((L.append M bf).1.2.sync (name (L.append M bf).2.1.seg)).1.dR).1),(L.append M bf).2.1.seg,0):=rfl
end Go.Seg
namespace Go.Proofs.YtihngncbioofnaaGreatDoor
open Go Go.Sl Go.ay Go.MapKept Go.RowKit
section
variable {w0 w:World}{F R:List aH}{v bv dv x lv:Value}{q p m K:Nat}{L:Seg.Log}{M:ay}{s:Int×Int}
theorem Ph (hH:Ro w0 F Half) (hL:L.Ok) (hM:M.Ok K) (jW:K+6≤1099511627776) (h:Sat w0 w (aK p m L::aJ m M::F)) :
  Calls Tryz.prog 61 #[ptr p] w (aP fun v w'=>v = .tuple #[.int .i64 (L.commit M).2.1,errno (L.commit M).2.2] ∧
   Sat w0 w' (aK p m (L.commit M).1.1::aJ m (L.commit M).1.2::F)):=by
 have hap:=Dc Seg.bf rfl none 0 (fun w _=>wG 1 0 w) hH aN hL hM oQ h;have Hg:=uQ (Seg.Log.Cj L M);have HL:=uQ (hL.append M Seg.bf rfl);have HM:=uQ (Seg.Log.U1 (L:=L) hM Seg.bf);have HH:=uQ hH;clear hL hM h hH;generalize L.append M Seg.bf=A at *
 obtain ⟨⟨L1,M1⟩,pl,e1⟩:=A;go_enter Tryz.func61,Tryz.ntmps61;go_wp2_with fail;refine hap.mono ?_;rintro e w1 ⟨v,rfl,rfl,hS1⟩;clear hap;by_cases he:e1=0;rotate_left
 ·have heb:(e1==0)=false:=ahB he;have hfin:=uQ (Hg.out.trans (acr he));clear he;go_wp2_with (first|(refine fF GZ aQ rfl ?_;intro q w2 hS2)|((with_reducible refine cO ⟨?_⟩);refine fG aQ aj ak pQ eX bJ au aj ?_;intro wS hS))
  go_ret2
  refine ⟨.tuple #[.int .i64 0,errno e1],rfl,?_,?_⟩
  ·rw [hfin.out]
  ·rw [hfin.out];exact Sat.sb hS
 subst he;have H1:=uQ (Hg.out.trans (abA (fun h=>h rfl)));clear Hg;go_wp2_with (first|(refine fF GZ aQ rfl ?_;intro q w2 hS2)|((with_reducible refine cO ⟨?_⟩);refine fG aQ aj ak pQ eX bJ au aj ?_;intro wS hS));have hS1:=hS;clear hS hS2;obtain ⟨lv,hR⟩:=aK.oW (Sat.pk aQ);clear hS1;go_wp2_with fail;refine dS [7,8] (fun w'=>w'.cell? ⟨p,0,none⟩=some (ptr m)∧w'.cell? ⟨q,0,none⟩=some (.int .i64 pl.seg)) au ?_;have hG:(World.drew _).cell? ⟨p,0,none⟩=some (ptr m)∧(World.drew _).cell? ⟨q,0,none⟩=some (.int .i64 pl.seg):=⟨hR.drew.cellP bC 0 rfl,hR.drew.cellP bC 0 rfl⟩;refine rP 0 ?_ (y:=aZ);refine rP 1 ?_ (y:=dV);refine rP 2 ?_ (y:=bW);refine rt 3 (h:=?_);refine rP 4 ?_ (y:=bW);refine rt 5 (h:=?_);clear hG;refine bY 6 ak au (fun K hK=>?_)
 (refine oJ au ak ?_)
 refine (yQ pl.seg hR.drew).mono ?_;rintro e w3 ⟨v,rfl,rfl,hS3⟩;refine hK _ _ (.inr (.inl ⟨hS3.cellP bC 0 rfl,hS3.cellP bC 0 rfl⟩)) ?_;clear hK K;refine bY 7 ak au (fun K hK=>?_)
 (refine gZ au ak ak ?_)
 refine (KN HM.out (Sat.pk aQ) _).mono ?_;rintro e w4 ⟨v,rfl,rfl,hS4⟩;refine hK _ _ (.inl rfl) ?_;clear hK K hS3 hR;refine rP 8 ?_ (y:=fZ);refine dI au ?_;have uh:=uQ (HM.out.sync (Seg.name pl.seg));generalize M1.sync (Seg.name pl.seg)=B at *
 obtain ⟨M2,e2⟩:=B;by_cases he:e2=0;rotate_left
 ·have heb:(e2==0)=false:=ahB he;have hfin:=uQ (H1.out.trans (acr he));clear he;go_wp2_with fail
  go_ret2
  refine ⟨.tuple #[.int .i64 0,errno e2],rfl,?_,?_⟩
  ·rw [hfin.out]
  ·rw [hfin.out];exact aK.shut2 (lv:=lv) (Sat.sb hS4)
 subst he;have H2:=uQ (H1.out.trans (abA (fun h=>h rfl)));clear H1;have e0:w4.cell? ⟨p,0,none⟩=some (ptr m):=hS4.cellP bC 0 rfl;go_wp2_with fail;refine (RI uh.out (Sat.pk aQ)).mono ?_;rintro e w5 ⟨v,rfl,rfl,hS5⟩;clear hS4 e0;generalize M2.dR=C at *
 obtain ⟨M3,e3⟩:=C;by_cases he:e3=0;rotate_left
 ·have heb:(e3==0)=false:=ahB he;have hfin:=uQ (H2.out.trans (acr he));clear he;go_wp2_with fail
  go_ret2
  refine ⟨.tuple #[.int .i64 0,errno e3],rfl,?_,?_⟩
  ·rw [hfin.out]
  ·rw [hfin.out];exact aK.shut2 (lv:=lv) (Sat.sb hS5)
 subst he;have hfin:=uQ (H2.out.trans (abA (fun h=>h rfl)));clear H2;go_wp2_with (first|((with_reducible refine bI ⟨?_⟩);refine gu aQ aj bC bJ ak au ?_)|((with_reducible refine cO ⟨?_⟩);refine fG aQ aj ak pQ eX bJ au aj ?_;intro wS hS))
 go_ret2
 refine ⟨.tuple #[.int .i64 pl.seg,errno 0],rfl,?_,?_⟩
 ·rw [hfin.out]
 ·rw [hfin.out];exact aK.shut2 (lv:=lv) (Sat.sb hS)
end
end Go.Proofs.YtihngncbioofnaaGreatDoor
namespace Go.Seg
def idx (l:List (Int×Int)) (n:Int):Int:=match l.findIdx? (fun s=>s.1==n) with
 |some i=>i
 |none=> -1
theorem afZ (L:Log) (n:Int):L.find n=idx L.l n:=rfl
theorem ahk {l:List (Int×Int)}{n:Int}{i:Nat}{s:Int×Int} (hs:l[i]?=some s) (hn:s.1=n) (hp:∀ (j:Nat) (t:Int×Int),j<i→l[j]?=some t→t.1≠n):idx l n=i:=by
 unfold idx;have:l.findIdx? (fun s=>s.1==n)=some i:=by
  rw [List.findIdx?_eq_some_iff_getElem];obtain ⟨h1,h2⟩:=abW.1 hs;refine ⟨h1,by rw [h2];simpa using hn,fun j hj=>?_⟩;have:=hp j _ hj (aaI oQ);simpa using this
 rw [this]
theorem ahl {l:List (Int×Int)}{n:Int} (hp:∀ (j:Nat) (t:Int×Int),j<l.length→l[j]?=some t→t.1≠n):idx l n = -1:=by
 unfold idx;have:l.findIdx? (fun s=>s.1==n)=none:=by
  rw [List.findIdx?_eq_none_iff];intro t ht;obtain ⟨j,hj,rfl⟩:=anA ht;have:=hp j _ hj (aaI hj);simpa using this
 rw [this]
end Go.Seg
namespace Go.Proofs.YtihngncbioofnaaGreatDoor
open Go Go.Sl Go.ay Go.MapKept Go.RowKit
section
variable {w0 w:World}{F R:List aH}{v bv dv x lv:Value}{q p m K:Nat}{L:Seg.Log}{M:ay}{s:Int×Int}
theorem afY (s:Int×Int) (n:Int) (h:Sat w0 w F) (hq:Ro w0 F fun w=>w.cell? ⟨q,0,none⟩=some (.int .i64 n)) :
  Calls Tryz.prog 89 #[.agg #[.int .i64 s.1,.int .i64 s.2],ptr q] w (aP fun v w'=>v = .bool (s.1==n)∧Sat w0 w' F):=by
 go_enter Tryz.func89,Tryz.ntmps89;go_wp2_with (first|(((with_reducible refine fK ⟨?_⟩);refine fM aQ ak ak ?_;intro bB wB hB);have c0:wB.cell? ⟨q,0,none⟩=some (.int .i64 n):=hq _ hB.drop)|((with_reducible refine bI ⟨?_⟩);refine gu aQ aj bC bJ ak au ?_));go_ret;exact ⟨_,rfl,rfl,hB.drop⟩
theorem ahm (l:List (Int×Int)) (n:Int) (hln:l.length≤1048576) (h:Sat w0 w (aB 105 2 lv (eF l)::F)) (hq:Ro w0 F fun w=>w.cell? ⟨q,0,none⟩=some (.int .i64 n)) :
  Calls Tryz.prog 88 #[lv,.func (.func 89) #[] #[ptr q]] w (aP fun v w'=>v = .int .i64 (Seg.idx l n)∧Sat w0 w' (aB 105 2 lv (eF l)::F)):=by
 rcases h.kP with ⟨rfl,hx,hF⟩|⟨b,n',cap,cs,rfl,hll,hn',hc,hcm,htk,hp⟩
 ·have hl:l=[]:=by
   cases l with
   |nil=>rfl
   |cons a l=>simp [eF]at hx
  subst hl;go_enter Tryz.func88,Tryz.ntmps88;go_wp2_with fail
  go_loopg [8] 0 (fun g iq wr=>iq = .int .i64 0∧wr=w)
  case atStart=>exact ⟨rfl,rfl⟩
  case round=>
   obtain ⟨rfl,rfl⟩:=hrel;go_wp2;go_ret;exact ⟨_,rfl,rfl,h⟩
 ·rw [kT]at hll;obtain rfl:n'=l.length:=by omega
  have hcl:∀ (i:Nat) (s:Int×Int),l[i]?=some s→cs[i * 2]?=some (.int .i64 s.1)∧cs[i * 2+1]?=some (.int .i64 s.2):=by
   intro i s hs;obtain ⟨h1,h2⟩:=KD _ _ _ hs;rw [ahC i 2];exact ⟨mZ htk h1,mZ htk h2⟩
  have fP:=uQ hcl;have Ie:=uQ (show ∀ wr,Sat w0 wr (pt b (.cells cs 105 (0,0))::F)→Sat w0 wr (aB 105 2 (.slice (some ⟨b,0,none⟩) l.length cap) (eF l)::F) from fun wr hS=>Sat.kR hS (by rw [kT];omega) hn' hc hcm htk);have Hq:=uQ hq;clear hcl hn' hc hcm htk h hq hll;go_enter Tryz.func88,Tryz.ntmps88;go_wp2_with fail
  go_loopg [8] l.length (fun g iq wr=>∃ i:Nat,g=l.length - i∧i≤l.length∧iq = .int .i64 i∧Sat w0 wr (pt b (.cells cs 105 (0,0))::F)∧Hid (∀ (j:Nat) (t:Int×Int),j<i→l[j]?=some t→t.1≠n))
  case atStart=>exact ⟨0,rfl,acV _,rfl,hp,uQ fun j t hj=>absurd hj (Nat.not_lt_zero j)⟩
  case round=>
   obtain ⟨i,rfl,hi,rfl,hS,Hp⟩:=hrel;clear hp;by_cases hlt:i<l.length
   ·obtain ⟨s,hs⟩:∃ s,l[i]?=some s:=⟨_,aaI hlt⟩;obtain ⟨d0,d1⟩:=fP.out i s hs;have Hs:=uQ hs;have LQ:=uQ d0;have Hd1:=uQ d1;have bV:=uQ hlt;have hic:(i:Int)<(l.length:Int):=oQ;have hwi:=yA (i:=i);clear hs d0 d1 hlt;have hfn:=afY (q:=q) s n hS (Ro.os Hq.out)
    go_wp2_with ((with_reducible refine bI ⟨?_⟩);refine DW (b:=b) (o:=i * 2) [.int .i64 s.1,.int .i64 s.2] aQ aj bC (fun j v hj=>by
     rcases j with _|_|j
     ·cases hj;exact LQ.out
     ·cases hj;exact Hd1.out
     ·simp at hj) Tryz.underlying105 rfl au ?_)
    refine hfn.mono ?_;rintro e w2 ⟨v,rfl,rfl,hS2⟩;clear hfn hS;by_cases hsn:s.1=n
    ·have hsb:(s.1==n)=true:=by simpa using hsn
     have bF:=uQ (Seg.ahk Hs.out hsn Hp.out);clear hsn;go_wp2;go_ret;exact ⟨.int .i64 i,rfl,by rw [bF.out],Ie.out _ hS2⟩
    ·have hsb:(s.1==n)=false:=by simpa using hsn
     have zB:=uQ (show ∀ (j:Nat) (t:Int×Int),j<i+1→l[j]?=some t→t.1≠n by
      intro j t hj ht;by_cases hji:j<i
      ·exact Hp.out j t hji ht
      ·obtain rfl:j=i:=by omega
       rw [Hs.out]at ht;cases ht;exact hsn)
     clear hsn Hp;go_wp2
     go_roundg (l.length - (i+1))
     case measure=>have:=bV.out;omega
     case rel=>exact ⟨i+1,rfl,adi bV.out,by first|rfl|go_num,hS2,zB⟩
   ·obtain rfl:i=l.length:=by omega
    have hic:¬ (l.length:Int)<(l.length:Int):=oQ;have bF:=uQ (Seg.ahl Hp.out);clear hi hlt Hp;go_wp2;go_ret;exact ⟨.int .i64 (-1),rfl,by rw [bF.out],Ie.out _ hS⟩
theorem JA (hL:L.Ok) (n:Int) (h:Sat w0 w (aK p m L::F)) :
  Calls Tryz.prog 46 #[ptr p,.int .i64 n] w (aP fun v w'=>v = .int .i64 (L.find n)∧Sat w0 w' (aK p m L::F)):=by
 obtain ⟨lv,hR⟩:=aK.oW h;clear h;have jJ:=uQ hL.len;rw [Seg.afZ];clear hL;go_enter Tryz.func46,Tryz.ntmps46;go_wp2_with ((with_reducible refine fK ⟨?_⟩);refine fM aQ ak ak ?_;intro bB wB hB);refine (tu (Sat.pk aQ)).mono ?_;rintro e w2 ⟨v,rfl,rfl,rfl⟩;clear hR;go_wp2_with ((with_reducible refine bI ⟨?_⟩);refine gu aQ aj bC bJ ak au ?_);refine (ahm (q:=bB) (lv:=lv) L.l n jJ.out (Sat.pk aQ) (fun w hw=>hw.cellP bC 0 rfl)).mono ?_;rintro e w3 ⟨v,rfl,rfl,hS3⟩;clear hB;go_wp2;go_ret;exact ⟨_,rfl,rfl,aK.shut2 (lv:=lv) (Sat.sb hS3)⟩
theorem YZ (hM:M.Ok K) (h:Sat w0 w (aK p m L::aJ m M::F)) :
  Calls Tryz.prog 38 #[ptr p] w (aP fun v w'=>v=errno M.dR.2∧Sat w0 w' (aK p m L::aJ m M.dR.1::F)):=by
 obtain ⟨lv,hR⟩:=aK.oW h;clear h;go_enter Tryz.func38,Tryz.ntmps38;go_wp2_with fail;refine (tu (Sat.pk aQ)).mono ?_;rintro e w2 ⟨v,rfl,rfl,rfl⟩;go_wp2_with ((with_reducible refine bI ⟨?_⟩);refine gu aQ aj bC bJ ak au ?_);refine (RI hM (Sat.pk aQ)).mono ?_;rintro e w3 ⟨v,rfl,rfl,hS3⟩;go_wp2;go_ret;exact ⟨_,rfl,rfl,aK.shut2 (lv:=lv) (Sat.sb hS3)⟩
theorem N7 (n:Int):(L.at n=none∧L.find n = -1)∨∃ i,L.at n=some i∧L.find n=i:=by
 unfold Seg.Log.find;cases L.at n with
 |none=>exact .inl ⟨rfl,rfl⟩
 |some i=>exact .inr ⟨i,rfl,rfl⟩
theorem FV (hL:L.Ok) (hM:M.Ok K) (n:Int) (h:Sat w0 w (aK p m L::aJ m M::F)) :
  Calls Tryz.prog 14 #[ptr p,.int .i64 n] w (aP fun v w'=>∃ bv,v = .tuple #[bv,errno (L.bytes M n).2]∧Sat w0 w' (bK bv (L.bytes M n).1::aK p m L::aJ m M::F)):=by
 obtain ⟨lv,hR⟩:=aK.oW h;have hok:=tu hR;have hf:=JA hL n h;rcases N7 (L:=L) n with ⟨ha,hb⟩|⟨i,ha,hb⟩
 ·have bF:=uQ (show L.bytes M n=([],9) by unfold Seg.Log.bytes;rw [ha]);rw [hb]at hf;clear ha hb hL h hR;go_enter Tryz.func14,Tryz.ntmps14;go_wp2_with fail;refine hok.mono ?_;rintro e w2 ⟨v,rfl,rfl,rfl⟩;clear hok;go_wp2_with fail;refine hf.mono ?_;rintro e w2 ⟨v,rfl,rfl,hS2⟩;clear hf;go_wp2
  go_ret2
  rw [bF.out];exact ⟨_,rfl,.slice none 0 0,rfl,Sat.gI.2 hS2⟩
 ·rw [hb]at hf;have bF:=uQ (show L.bytes M n=M.all (Seg.name n) by unfold Seg.Log.bytes;rw [ha]);have hi0:(0:Int)≤(i:Int):=oQ;have hd:decide ((i:Int)<0)=false:=ac4 oQ;clear ha hb hL h hR lv;go_enter Tryz.func14,Tryz.ntmps14;go_wp2_with fail;refine hok.mono ?_;rintro e w2 ⟨v,rfl,rfl,rfl⟩;clear hok;go_wp2_with fail;refine hf.mono ?_;rintro e w2 ⟨v,rfl,rfl,hS2⟩;clear hf;obtain ⟨lv,hR⟩:=aK.oW hS2;clear hS2;go_wp2_with fail;refine dS [6,7,8,9,10] (fun w'=>w'.cell? ⟨p,0,none⟩=some (ptr m)) au ?_;have hG:w2.drew.cell? ⟨p,0,none⟩=some (ptr m):=hR.drew.cellP bC 0 rfl;refine rP 0 ?_ (y:=aZ);refine rP 1 ?_ (y:=dV);refine rP 2 ?_ (y:=bW);refine rt 3 (h:=?_);refine rP 4 ?_ (y:=aZ);clear hG;refine bY 5 ak au (fun K hK=>?_)
  (refine oJ au ak ?_)
  refine (yQ n hR.drew).mono ?_;rintro e w3 ⟨v,rfl,rfl,hS3⟩;refine hK _ _ (.inr (.inl (hS3.cellP bC 0 rfl))) ?_;clear hK K hR;refine bY 6 ak au (fun K hK=>?_)
  (refine gZ au ak ak ?_)
  refine (adY hM (Sat.pk aQ) _).mono ?_;rintro e w4 ⟨v,rfl,bv,rfl,hS4⟩;refine hK _ _ (.inl rfl) ?_;clear hK K hS3;refine rP 7 ?_ (y:=(fC ak bU));refine rP 8 ?_ (y:=(fC ak bU));refine rP 9 ?_ (y:=fZ);refine rP 10 ?_ (y:=fZ);refine dI au ?_;go_wp2
  go_ret2
  rw [bF.out];exact ⟨_,rfl,bv,rfl,Sat.sub (aK.shut2 (lv:=lv) (hS4.sb)) pV⟩
end
end Go.Proofs.YtihngncbioofnaaGreatDoor
