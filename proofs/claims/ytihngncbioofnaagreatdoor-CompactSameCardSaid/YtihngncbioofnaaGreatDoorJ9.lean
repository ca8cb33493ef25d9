import Derived.Test.YtihngncbioofnaaGreatDoorJ8
open Go.Proofs.Tryz
set_option maxRecDepth 20000
set_option linter.unusedVariables false
set_option linter.unusedSimpArgs false
set_option maxHeartbeats 128000000
open Go Go.Sl Go.MapKept Go.RowKit
open Go.Proofs.YtihngncbioofnaaGreatDoor
variable {w w0:World}{F L:List aG}{v lv vy bv rv vx:Value}{P:Program}{ops:Array Oper}{a:Act}{dst:Option Tmp}{t ty:TypeId}{after:Array Edge}{rest:List Oper}{Q:Exit->Act->World->Prop}{x y s:Operand}{l m:ay.Bs}{p n:Nat}
theorem yN0{p:Prop} (h:p:=by have:=Hl.o;omega):p:=h
theorem yU0{p:Prop} (h:p:=by have:=pU.o;omega):p:=h
theorem zA0{p:Prop} (h:p:=by rw [lQ _ H1.o.key];kernel_rfl):p:=h
theorem zB0{p:Prop} (h:p:=by rw [kX _ H1.o.key];kernel_rfl):p:=h
namespace Go.Proofs.Y
open Go.ay
section
variable {pos:String}{parts:Array (Nat×Operand)}
theorem aop (parts':Array (Nat×Value)) (he:parts.map (λp=>(p.1,a.eval p.2))=parts') (hr:∀ w,(Instr.build ty parts').run P w=.ok v w) (h:wpList P ops Q rest (a.put dst v) w):wpList P ops Q (⟨dst,.build ty parts,t,pos,after,none⟩::rest) a w:=
 aeV rfl λ_ hK=>by
  unfold Oper.wp execOp;simp only [he,ad1,hr,adu,aek];exact hK _ _ h
theorem afn (h:Stop (wpList P ops Q (⟨dst,.build ty parts,t,pos,after,none⟩::rest) a w)):wpList P ops Q (⟨dst,.build ty parts,t,pos,after,none⟩::rest) a w:=h.o
end
abbrev mZ (mg:ByteArray) (kd:Bool) (k:Nat):Array Value:=#[.string mg,.bool kd,.int .i64 k]
abbrev Qg:Array Value:=mZ ⟨#[72,79,65,82,68,73,68,88]⟩ true 3
abbrev Ul:Array Value:=mZ ⟨#[72,79,65,82,68,85,83,69]⟩ false 3
theorem adN:jF prog 213=some (.agg #[.string ⟨#[]⟩,.bool false,.int .i64 0]):=by kernel_rfl
theorem amj (w:World):(Instr.build 213 #[(0,.string ⟨#[72,79,65,82,68,73,68,88]⟩),(1,.bool true),(2,.int .i64 3)]).run prog w=.ok (.agg Qg) w:=by kernel_rfl
theorem amC (w:World):(Instr.build 213 #[(0,.string ⟨#[72,79,65,82,68,85,83,69]⟩),(1,.bool false),(2,.int .i64 3)]).run prog w=.ok (.agg Ul) w:=by kernel_rfl
theorem ZJ (h:Sat w0 w F):Calls prog 131 #[] w (aP λv w'=>v=.agg Qg/\Sat w0 w' F):=by
 go_enter func131,ntmps131;go_wp2_with (with_reducible apply fB);refine ⟨eF adN h rfl ?_⟩;intro b4 w4 h4;have hb:=amj
 go_wp2_with (first
  |((with_reducible refine dh ⟨?_⟩);refine fP Qg h4 ah ah ah cZ au ah ?_;intro w9 h9))
 refine ⟨rfl,_,yU rfl h9 ah bJ underlying213 rfl au,?_⟩;exact ⟨_,rfl,rfl,h9.drop⟩
theorem adq (h:Sat w0 w F):Calls prog 136 #[] w (aP λv w'=>v=.agg Ul/\Sat w0 w' F):=by
 go_enter func136,ntmps136;go_wp2_with (with_reducible apply fB);refine ⟨eF adN h rfl ?_⟩;intro b4 w4 h4;have hb:=amC
 go_wp2_with (first
  |((with_reducible refine dh ⟨?_⟩);refine fP Ul h4 ah ah ah cZ au ah ?_;intro w9 h9))
 refine ⟨rfl,_,yU rfl h9 ah bJ underlying213 rfl au,?_⟩;exact ⟨_,rfl,rfl,h9.drop⟩
theorem ZT (mg:ByteArray) (kd:Bool) (k:Nat) (hk:k<=1000) (h:Sat w0 w F):Calls prog 217 #[.agg (mZ mg kd k)] w (aP λv w'=>v=.int .i64 (aT.jL kd k:Nat)/\Sat w0 w' F):=by
 have e1:IntKind.i64.wrap (4*(k:Int))=4*(k:Int):=adr _ oQ;have e2:IntKind.i64.wrap (4*(k:Int)+32)=4*(k:Int)+32:=adr _ oQ;cases kd
 ·have e:=uQ (show ((aT.jL false k:Nat):Int)=4*(k:Int) by unfold aT.jL;simp);go_enter func217,ntmps217;go_wp2_with (with_reducible apply fD);refine ⟨fE h ah ah ?_⟩;intro b w1 h1;go_wp2_with ((with_reducible refine bP ⟨?_⟩);refine fZ h1 ah aU bI ak au ?_);go_ret;exact ⟨_,rfl,by rw [e.o];rfl,h1.drop⟩
 ·have e:=uQ (show ((aT.jL true k:Nat):Int)=4*(k:Int)+32 by unfold aT.jL;simp);go_enter func217,ntmps217;go_wp2_with (with_reducible apply fD);refine ⟨fE h ah ah ?_⟩;intro b w1 h1;go_wp2_with ((with_reducible refine bP ⟨?_⟩);refine fZ h1 ah aU bI ak au ?_);go_ret;exact ⟨_,rfl,by rw [e.o];rfl,h1.drop⟩
abbrev yX (x:aT.Rw) (nv:Value):Array Value:=(aA x.key++[nv]).toArray
section
variable {na nb:Value}
theorem Ld {x:aT.Rw}{nv:Value}{j:Nat}{v:Value} (h:(aA x.key)[j]?=some v):(yX x nv)[j]?=some v:=by
 have hj:j<(aA x.key).length:=by
  rcases akJ j (aA x.key).length with k|k
  ·exact k
  ·rw [aiH k]at h;cases h
 rw [ace,aej hj];exact h
theorem AX {x:aT.Rw}{nv:Value} (hk:x.key.length=32):(yX x nv)[32]?=some nv:=by
 rw [ace,aeh (by rw [aX,hk];exact abl 32),aX,hk];rfl
theorem anW (a b:aj.Bs) (ha:a.length=32) (hb:b.length=32) (h:Sat w0 w F) :
  Calls prog 227 #[.agg (aA a).toArray,.agg (aA b).toArray] w (aP λv w'=>v=.bool (decide (a<b))/\Sat w0 w' F):=by
 have He:=uQ (show decide (Lib.compareBytes a b<0)=decide (a<b) from decide_eq_decide.2 (Tab.Je a b));go_enter func227,ntmps227;go_wp2_with (with_reducible apply fD);refine ⟨fE h ak ak ?_⟩;intro b2 w2 h2;go_wp2_with (with_reducible apply fD);refine ⟨fE h2 ak ak ?_⟩;intro b3 w3 h3;have hS:=h3.drew;have r1:bF 1 (.slice (some ⟨b2,0,none⟩) 32 32) (aA a) w3.drew:=⟨_,_,_,rfl,by rw [aX,ha],λj z hj=>⟨_,rfl,by rw [zS,ad8];exact hS.cellP bf j yK0⟩⟩;have r2:bF 1 (.slice (some ⟨b3,0,none⟩) 32 32) (aA b) w3.drew:=⟨_,_,_,rfl,by rw [aX,hb],λj z hj=>⟨_,rfl,by rw [zS,ad8];exact hS.cellP aU j yK0⟩⟩;have hbc:=WH a b r1 r2;generalize Lib.compareBytes a b=r at *
 clear h h2 h3 r1 r2 ha hb;go_wp2_with fail;have hG:True:=trivial;refine dN [] (λw'=>True) au ?_;refine rp 0 (hy:=yE0) (h:=?_);refine rp 1 (hy:=yE0) (h:=?_);refine bW 2 ak au (λK hK=>?_)
 (refine iC au ak ak ?_)
 refine hbc.mono ?_;rintro e w' ⟨rfl,rfl⟩;refine hK _ _ (.inr (.inr rfl)) ?_;clear hK hbc;refine rP 3 ?_ (y:=jH);refine rP 4 ?_ (y:=iy);refine dH au ?_;clear hG;go_wp2_with fail;go_ret;exact ⟨_,rfl,by rw [<-He.o];rfl,hS.drop.drop⟩
theorem ae9 (mg:ByteArray) (k:Nat) (a b:aT.Rw) (ha:a.key.length=32) (hb:b.key.length=32) (h:Sat w0 w F) :
  Calls prog 207 #[.agg (mZ mg true k),.agg (yX a na),.agg (yX b nb)] w (aP λv w'=>v=.bool (decide (aT.ahead true a b))/\Sat w0 w' F):=by
 have He:=uQ (show decide (aT.ahead true a b)=decide (a.key<b.key) from decide_eq_decide.2 Iff.rfl);have hia:(prog.info? 50).map (·.size)=some (aA a.key).length:=by rw [aX,ha];kernel_rfl
 have hib:(prog.info? 50).map (·.size)=some (aA b.key).length:=by rw [aX,hb];kernel_rfl
 have Hl:=uQ (λ(w':World) (R:List aG) (hw:Sat w0 w' R)=>anW a.key b.key ha hb hw);clear ha hb;go_enter func207,ntmps207;go_wp2_with (with_reducible apply fD);refine ⟨fE h ak ak ?_⟩;intro b1 w1 h1;go_wp2_with (with_reducible apply fD);refine ⟨fE h1 ak ak ?_⟩;intro b2 w2 h2;go_wp2_with (with_reducible apply fD);refine ⟨fE h2 ak ak ?_⟩;intro b3 w3 h3;clear h h1 h2
 go_wp2_with (first
  |((with_reducible refine bP ⟨?_⟩);first
   |refine fZ h3 ah (aS bf) bI ak au ?_
   |refine DY (o:=0) (aA a.key) h3 ah bf (λj v hj=>by rw [ad8];exact Ld hj) underlying50 rfl hia ?_
   |refine DY (o:=0) (aA b.key) h3 ah aU (λj v hj=>by rw [ad8];exact Ld hj) underlying50 rfl hib ?_))
 refine (Hl.o _ _ h3).mono ?_;rintro e w4 ⟨v,rfl,rfl,h4⟩;clear Hl h3;go_wp2;go_ret;exact ⟨_,rfl,by rw [He.o];rfl,h4.drop.drop.drop⟩
end
structure RV where
 x:aT.Rw
 nv:Value
def dA (r:RV):List Value:=aA r.x.key++[r.nv]
structure su (w0:World) (F:List aG) (r:RV):Prop where
 key:r.x.key.length=32
 rd:Ro w0 F (bF 1 r.nv (ints r.x.nums))
 ne:0<r.x.nums.length
theorem lQ (r:RV) (h:r.x.key.length=32):(dA r).length=33:=by unfold dA;rw [aaL,aX,h];rfl
theorem su.sub {r:RV}{G:List aG} (h:su w0 F r) (k:Sub G F):su w0 G r:=⟨h.key,Ro.of_sub h.rd k,h.ne⟩
theorem aa2 {nv:Value}{l:List Int} (h:bF 1 nv (ints l) w) (hl:0<l.length):∃ bk off c,nv=.slice (some ⟨bk,off,none⟩) l.length c/\w.cell? ⟨bk,off,none⟩=some (.int .i64 (l.getD 0 0)):=by
 have h0:l[0]?=some (l.getD 0 0):=by rw [adT,aay hl];rfl
 obtain ⟨bk,off,cc,hsv,hcell⟩:=jd (f:=λi:Int=>[Value.int .i64 i]) (k:=1) (l:=l) (λu _=>rfl) yJ0 h0 aN;have f0:=hcell 0 _ rfl;rw [aes,ai6]at f0;exact ⟨bk,off,cc,hsv,f0⟩
theorem afa (mg:ByteArray) (k:Nat) (a b:RV) (ha:su w0 F a) (hb:su w0 F b) (h:Sat w0 w F) :
  Calls prog 207 #[.agg (mZ mg false k),.agg (yX a.x a.nv),.agg (yX b.x b.nv)] w (aP λv w'=>v=.bool (decide (aT.ahead false a.x b.x))/\Sat w0 w' F):=by
 obtain ⟨a,na⟩:=a;obtain ⟨b,nb⟩:=b;have He:=uQ (show decide (aT.ahead false a b)=decide (a.nums.getD 0 0<b.nums.getD 0 0) from decide_eq_decide.2 Iff.rfl);have Ha:=uQ ha;have Hb:=uQ hb;clear ha hb;go_enter func207,ntmps207;go_wp2_with (with_reducible apply fD);refine ⟨fE h ak ak ?_⟩;intro b1 w1 h1;go_wp2_with (with_reducible apply fD);refine ⟨fE h1 ak ak ?_⟩;intro b2 w2 h2;go_wp2_with (with_reducible apply fD);refine ⟨fE h2 ak ak ?_⟩;intro b3 w3 h3;clear h h1 h2;have hS:=h3.drew;obtain ⟨ka,oa,ca,e1,f1⟩:=aa2 (Ha.o.rd _ hS.drop.drop.drop) Ha.o.ne;obtain ⟨kb,ob,cb,e2,f2⟩:=aa2 (Hb.o.rd _ hS.drop.drop.drop) Hb.o.ne;dsimp only at e1 e2 f1 f2;subst e1 e2;have hG0:=And.intro (hS.cellP bf 32 (AX Ha.o.key)) (And.intro f1 (And.intro (hS.cellP aU 32 (AX Hb.o.key)) f2));have NH:=uQ Ha.o.ne;have NI:=uQ Hb.o.ne;dsimp only at NH NI;clear f1 f2
 generalize a.nums.getD 0 0=X at *
 generalize b.nums.getD 0 0=Y at *
 have q1:(0:Int)<(a.nums.length:Int):=by have:=NH.o;omega
 have q2:(0:Int)<(b.nums.length:Int):=by have:=NI.o;omega
 have q3:0<a.nums.length:=NH.o;have q4:0<b.nums.length:=NI.o;go_wp2_with ((with_reducible refine bP ⟨?_⟩);refine fZ h3 ah (aS bf) bI ak au ?_);clear h3;refine dN [8,9] (λw'=>w'.cell? ⟨b2,32,none⟩=some (.slice (some ⟨ka,oa,none⟩) a.nums.length ca)/\w'.cell? ⟨ka,oa,none⟩=some (.int .i64 X)/\w'.cell? ⟨b3,32,none⟩=some (.slice (some ⟨kb,ob,none⟩) b.nums.length cb)/\w'.cell? ⟨kb,ob,none⟩=some (.int .i64 Y)) au ?_;have hG:=hG0;clear hG0;refine rP 0 ?_ (y:=bY);refine rt 1 (h:=?_);refine rP 2 ?_ (y:=jJ);refine rt 3 (h:=?_);refine rP 4 ?_ (y:=bY);refine rt 5 (h:=?_);refine rP 6 ?_ (y:=jJ);refine rt 7 (h:=?_);clear hG;refine rP 8 ?_ (y:=jH);refine rP 9 ?_ (y:=iy);refine dH au ?_;go_wp2_with fail;go_ret;exact ⟨_,rfl,by rw [He.o];rfl,hS.drop.drop.drop⟩
theorem afb (mg:ByteArray) (kd:Bool) (k:Nat) (a b:RV) (ha:su w0 F a) (hb:su w0 F b) (h:Sat w0 w F) :
  Calls prog 207 #[.agg (mZ mg kd k),.agg (yX a.x a.nv),.agg (yX b.x b.nv)] w (aP λv w'=>v=.bool (decide (aT.ahead kd a.x b.x))/\Sat w0 w' F):=by
 cases kd
 ·exact afa mg k a b ha hb h
 ·exact ae9 mg k a.x b.x ha.key hb.key h
theorem RQ (mg:ByteArray) (kd:Bool) (k:Nat) (rs:List RV) (hn:rs.length<=1073741824) (hr:Ro w0 F (bF 33 lv (rs.flatMap dA))) (he:∀ r∈rs,su w0 F r) (h:Sat w0 w F) :
  Calls prog 173 #[.agg (mZ mg kd k),lv] w (aP λv w'=>∃ t:Bool,v=.bool t/\(t=true↔aT.VT kd (rs.map (·.x)))/\Sat w0 w' F):=by
 obtain ⟨la,lc,rfl⟩:=jK (λr hr=>lQ r (he r hr).key) (hr w h) aN;have Hr:=uQ hr;have He:=uQ he;have Hn:=uQ hn;clear hr he hn;go_enter func173,ntmps173;go_wp2_with (with_reducible apply fD);refine ⟨fE h ak ak ?_⟩;intro b2 w2 h2;clear h;go_wp2_with fail
 go_loopg [5] rs.length (λg iq wr=>∃ m:Nat,g=rs.length-m/\iq=.int .i64 ((m:Int)+1)/\(∀ i a b,i<m->(rs.map (·.x))[i]?=some a->(rs.map (·.x))[i+1]?=some b->aT.ahead kd a b)/\m<=rs.length/\Sat w0 wr (pt b2 (.cells (mZ mg kd k) 213 (0,0))::F))
 case atStart=>exact ⟨0,rfl,rfl,λi a b hi=>absurd hi (Nat.not_lt_zero _),aea _,h2⟩
 case round=>
  obtain ⟨m,rfl,rfl,hal,hm,hS⟩:=hrel;clear h2;have Ec:=uQ hal;clear hal;by_cases hlt:m+1<rs.length
  ·have c1:(m:Int)+1<(rs.length:Int):=by omega
   have c0:(m:Int)<(rs.length:Int):=oQ;have c2:(0:Int)<=(m:Int)+1:=oQ;have hw0:IntKind.i64.wrap (m:Int)=(m:Int):=adr _ yH0;have hw1:IntKind.i64.wrap ((m:Int)+1-1)=(m:Int):=by rw [Int.add_sub_cancel];exact hw0
   have hw2:IntKind.i64.wrap ((m:Int)+1+1)=(m:Int)+1+1:=adr _ yH0;obtain ⟨r1,hx1⟩:∃ q,rs[m]?=some q:=⟨_,aay oQ⟩;obtain ⟨r2,hx2⟩:∃ q,rs[m+1]?=some q:=⟨_,aay hlt⟩;have zK:=uQ hx1;have VP:=uQ hx2;have H1:=uQ (He.o r1 (abA hx1));have H2:=uQ (He.o r2 (abA hx2));have hS1:=hS.drew;obtain ⟨bk,off,c',hsv,hc1⟩:=jd (f:=dA) (k:=33) (λr hr=>lQ r (He.o r hr).key) (Hr.o _ hS1.drop) hx1 aN;cases hsv;obtain ⟨Oy,off',c2',e2,hc2⟩:=jd (f:=dA) (k:=33) (λr hr=>lQ r (He.o r hr).key) (Hr.o _ hS1.drop) hx2 aN;cases e2;have hG0:World.rangeAt _ b2 0 [.string mg,.bool kd,.int .i64 k]/\World.rangeAt _ bk (off+m*33) (dA r1)/\World.rangeAt _ bk (off+(m+1)*33) (dA r2):=⟨yP (l:=[.string mg,.bool kd,.int .i64 k]) hS1,hc1,hc2⟩;have hah:=afb mg kd k r1 r2 (H1.o.sub kL) (H2.o.sub kL) hS1;have bT:=uQ hlt;clear hx1 hx2 hc1 hc2 hlt hm hS
   by_cases hab:aT.ahead kd r1.x r2.x
   ·rw [aeb hab]at hah;have MR:=uQ hab;clear hab;go_wp2_with fail;refine dN [10,11] (λw'=>w'.rangeAt b2 0 [.string mg,.bool kd,.int .i64 k]/\w'.rangeAt bk (off+m*33) (dA r1)/\w'.rangeAt bk (off+(m+1)*33) (dA r2)) au ?_;have hG:=hG0;clear hG0;refine gK 0 ak au bV (jh (b:=b2) (o:=0) [.string mg,.bool kd,.int .i64 k] ah underlying213 rfl au (λw hw=>hw.1)) aQ gQ ?_;refine rP 1 ?_ (y:=aZ);refine rP 2 ?_ (y:=aZ);refine rP 3 ?_ (y:=jH);refine rP 4 ?_ (y:=jJ);refine gK 5 ak au bV (jh (b:=bk) (o:=off+m*33) (dA r1) ah underlying221 rfl zA0 (λw hw=>hw.2.1)) aQ gQ ?_;refine rP 6 ?_ (y:=aZ);refine rP 7 ?_ (y:=aZ);refine rP 8 ?_ (y:=jJ);refine gK 9 ak au bV (jh (b:=bk) (o:=off+(m+1)*33) (dA r2) ah underlying221 rfl (by rw [lQ _ H2.o.key];kernel_rfl) (λw hw=>hw.2.2)) aQ gQ ?_;clear hG;refine bW 10 ak au (λK hK=>?_)
    (refine wL au ak ak ak ?_)
    refine hah.mono ?_;rintro ee w9 ⟨v,rfl,rfl,h9⟩;refine hK _ _ (.inl rfl) ?_;clear hK hah hS1;refine rP 11 ?_ (y:=(adL ak dw));refine dH au ?_;go_wp2_with fail
    go_roundg (rs.length-(m+1))
    case measure=>have:=bT.o;omega
    case rel=>
     refine ⟨m+1,rfl,by first|rfl|go_num,λi a b hi ha hb=>?_,Nat.le_of_lt bT.o,h9⟩;rcases Nat.lt_succ_iff_lt_or_eq.1 hi with hi|rfl
     ·exact Ec.o i a b hi ha hb
     ·rw [adW,zK.o]at ha;rw [adW,VP.o]at hb;cases ha;cases hb;exact MR.o
   ·rw [ad2 hab]at hah;have MR:=uQ hab;clear hab;go_wp2_with fail;refine dN [10,11] (λw'=>w'.rangeAt b2 0 [.string mg,.bool kd,.int .i64 k]/\w'.rangeAt bk (off+m*33) (dA r1)/\w'.rangeAt bk (off+(m+1)*33) (dA r2)) au ?_;have hG:=hG0;clear hG0;refine gK 0 ak au bV (jh (b:=b2) (o:=0) [.string mg,.bool kd,.int .i64 k] ah underlying213 rfl au (λw hw=>hw.1)) aQ gQ ?_;refine rP 1 ?_ (y:=aZ);refine rP 2 ?_ (y:=aZ);refine rP 3 ?_ (y:=jH);refine rP 4 ?_ (y:=jJ);refine gK 5 ak au bV (jh (b:=bk) (o:=off+m*33) (dA r1) ah underlying221 rfl zA0 (λw hw=>hw.2.1)) aQ gQ ?_;refine rP 6 ?_ (y:=aZ);refine rP 7 ?_ (y:=aZ);refine rP 8 ?_ (y:=jJ);refine gK 9 ak au bV (jh (b:=bk) (o:=off+(m+1)*33) (dA r2) ah underlying221 rfl (by rw [lQ _ H2.o.key];kernel_rfl) (λw hw=>hw.2.2)) aQ gQ ?_;clear hG;refine bW 10 ak au (λK hK=>?_)
    (refine wL au ak ak ak ?_)
    refine hah.mono ?_;rintro ee w9 ⟨v,rfl,rfl,h9⟩;refine hK _ _ (.inl rfl) ?_;clear hK hah hS1;refine rP 11 ?_ (y:=(adL ak dw));refine dH au ?_;go_wp2_with fail;go_ret;refine ⟨_,rfl,false,rfl,⟨λk=>(by cases k),λk=>absurd (k m r1.x r2.x ?_ ?_) MR.o⟩,h9.drop⟩
    ·rw [adW,zK.o];rfl
    ·rw [adW,VP.o];rfl
  ·have c1:¬ (m:Int)+1<(rs.length:Int):=by omega
   have bT:=uQ hlt;clear hlt hm;go_wp2;go_ret;refine ⟨_,rfl,.inr ⟨rfl,λi a b ha hb=>?_,hS.drop⟩⟩;have hi:=(abm.1 hb).1;rw [aa4]at hi;exact Ec.o i a b (by have:=bT.o;omega) ha hb
section
variable {pos:String}
theorem MG (hx:a.eval x=vx) (hy:a.eval y=vy) (hr:∀ w,(Instr.sliceAt ty vx (some vy) none none).run P w=.ok v w):Yields P ops ⟨dst,.slice ty x (some y) none none,t,pos,after,none⟩ v a:=
 .inl ⟨mF _ rfl,λw=>by simp only [execOp,hx,hy,afW,aoC,ad1,hr,adu,aek]⟩
theorem aor (l c:Nat) (h1:l<=c) (h2:c<=1099511627776) (hs:Sat w0 w L) (hx:a.eval x=.int .i64 l) (hy:a.eval y=.int .i64 c)
  (hK:∀ b w',Sat w0 w' (bQ (.slice (some ⟨b,0,none⟩) l c) (List.replicate l 0)::L)->wpList prog ops Q rest (a.put dst (.slice (some ⟨b,0,none⟩) l c)) w') :
  wpList prog ops Q (⟨dst,.makeSlice 39 x y,t,pos,after,none⟩::rest) a w:=by
 have hS:=hs.alloc (.cells (madeCells #[.int .u8 0] c) 5);refine aeV rfl λ_ hK'=>?_;unfold Oper.wp execOp;simp only [hx,hy,aau l c h1 h2,ad1,aek,adu];exact hK' _ _ (hK _ _ (aas h1 h2 hS))
theorem afp (h:Stop (wpList P ops Q (⟨dst,.makeSlice ty x y,t,pos,after,none⟩::rest) a w)):wpList P ops Q (⟨dst,.makeSlice ty x y,t,pos,after,none⟩::rest) a w:=h.o
theorem adw (hs:Sat w0 w (bQ v l::F)) (hv:a.eval s=v) (hy:a.eval y=vy) (hx:bF 1 vy (aA m) w) (hlen:l.length+m.length<=1099511627776)
  (hK:∀ v' w',Sat w0 w' (bQ v' (l++m)::F)->wpList prog ops Q rest (a.put dst v') w') :
  wpList prog ops Q (⟨dst,.call { callee:= .builtin .append,args:=#[s,y],argTypes:=#[39,39] },39,pos,after,none⟩::rest) a w:=by
 obtain ⟨i,hi,hz0,hz1,hz2⟩:=vC;have h63:(aA l).length+(aA m).length<=maxLen:=by rw [aX,aX];unfold maxLen;omega
 have hby:((aA l).length+(aA m).length)*i.bytes<=140737488355328:=by rw [aX,aX,hz2];omega
 refine zo (w0:=w0) rfl s y 39 rfl _ i _ underlying39 hi hz0 hz1 ah oQ hv hy (wG _) hs hx h63 hby ?_;intro v' w' hS hn;rw [<-zW]at hS;exact hK v' w' hS
end
theorem anq (n:Nat):∃ x:Nat,IntKind.u64.wrap ((2870177450012600261:Int)+(n:Int))=(x:Int)/\x<18446744073709551616/\(2870177450012600261+n)%18446744073709551616=x:=by
 obtain ⟨x,a,b,c⟩:=acU 2870177450012600261 n;unfold Xx.W at c;exact ⟨x,(aey (λz=>IntKind.u64.wrap (z+(n:Int))) (show (2870177450012600261:Int)=((2870177450012600261:Nat):Int) from rfl)).trans a,b,c⟩
theorem aiG (hl0:l≠[]) (hl:l.length<=1073741824) (hr:RS w0 F bv l) (h:Sat w0 w (jI p Xx.Ln.zero (.slice none 0 0) 0::F)) :
  Calls prog 209 #[ptr p,bv] w (aP λ_ w'=>∃ rv bA cA,Sat w0 w' (jI p (Xx.kE l.length Xx.Ln.zero l).1 rv l.length::bQ (.slice (some ⟨bA,0,none⟩) l.length cA) l::F)/\RS w0 (bQ (.slice (some ⟨bA,0,none⟩) l.length cA) l::F) rv (Xx.kE l.length Xx.Ln.zero l).2):=by
 obtain ⟨ba,bc,rfl,hb1,hb2⟩:=(hr.more (G:=jI p Xx.Ln.zero (.slice none 0 0) 0::F) kL).len h;have Hr:=uQ hr;have Hl:=uQ hl;have Em:=uQ hl0;have c0:w.cell? ⟨p,0,none⟩=some (.bool true):=h.cellAt 0 _ rfl;have n1:IntKind.u64.wrap (l.length:Int)=(l.length:Int):=by rw [ajd];omega
 have n2:(l.length:Int)%18446744073709551616=(l.length:Int):=oQ;have n3:IntKind.i64.wrap (l.length:Int)=(l.length:Int):=adr _ oQ;clear hr hl hb1 hb2 hl0;go_enter func209,ntmps209
 go_wp2_with (first
  |((with_reducible refine bP ⟨?_⟩);refine fZ h ah aU bI ak au ?_)
  |(with_reducible apply dh))
 refine ⟨gq (v:= .int .u64 l.length) h ah ah ah cZ (by exact abl 8) au ah ?_⟩;intro w1 h1;have h2:Sat w0 w1 (jI p Xx.Ln.zero (.slice none 0 0) l.length::F):=h1;clear h h1 c0
 go_wp2_with (first
  |((with_reducible refine bP ⟨?_⟩);refine fZ h2 ah aU bI ak au ?_)
  |(with_reducible apply afp))
 refine ⟨aor 0 l.length (aea _) yN0 h2 ah ah ?_⟩;intro bM w3 h3
 go_wp2_with (first
  |((with_reducible refine bP ⟨?_⟩);refine fZ h3 ah bf bI ak au ?_)
  |(with_reducible apply lH))
 refine ⟨adw (m:=[]) h3 ah ah (xu 1 0 _) yF0 ?_⟩;intro v4 w4 h4;go_wp2_with (with_reducible apply lH);refine ⟨adw (m:=l) h4 ah ah (Hr.o.rd _ h4.drop.drop) (by simp only [List.replicate,adV,aeL];have:=Hl.o;omega) ?_⟩;intro v5 w5 h5;have h6:Sat w0 w5 (bQ v5 l::jI p Xx.Ln.zero (.slice none 0 0) l.length::F):=h5;clear h2 h3 h4 h5;obtain ⟨bA,cA,rfl⟩:∃ bA cA,v5=.slice (some ⟨bA,0,none⟩) l.length cA:=by
  rcases Sat.lC h6 with ⟨_,he,_⟩|⟨b,n,cap,cs,he,k1,_⟩
  ·exfalso;apply Em.o;have:=aey List.length he;rw [aX]at this;exact agZ (by simpa using this)
  ·rw [aX,aes]at k1;subst k1;exact ⟨b,cap,he⟩
 have h7:Sat w0 w5 (jI p Xx.Ln.zero (.slice none 0 0) l.length::bQ (.slice (some ⟨bA,0,none⟩) l.length cA) l::F):=h6.sb;have vV:=uQ (show RS w0 (bQ (.slice (some ⟨bA,0,none⟩) l.length cA) l::F) (.slice (some ⟨bA,0,none⟩) l.length cA) l from RS.Kz h7.drop);clear h6;go_wp2_with fail
 go_loopg [4] l.length (λg aq wr=>∃ (ln:Xx.Ln) (m:Bs),g=m.length/\m.length<=l.length/\ln.lt/\RS w0 (bQ (.slice (some ⟨bA,0,none⟩) l.length cA) l::F) aq m/\Xx.kE l.length Xx.Ln.zero l=Xx.kE m.length ln m /\
  Sat w0 wr (jI p ln (.slice none 0 0) l.length::bQ (.slice (some ⟨bA,0,none⟩) l.length cA) l::F))
 case atStart=>exact ⟨Xx.Ln.zero,l,rfl,abl _,Xx.adP,vV.o,rfl,h7⟩
 case round=>
  obtain ⟨⟨la,lb,lc,ld⟩,m,rfl,hml,hlt,hRS,heq,hS⟩:=hrel;clear h7 vV;by_cases h32:32<=m.length
  ·obtain ⟨a,c,a4,c4,rfl,k1,k2,hrun4,rs4⟩:=yc hRS hS.drop h32;obtain ⟨_,_,a0,c0,he,_,_,S9,SQ⟩:=yc hRS hS.drop (k:=0) oQ;cases he;obtain ⟨_,_,a1,c1,he,_,_,Tc,SS⟩:=yc hRS hS.drop (k:=8) oQ;cases he;obtain ⟨_,_,a2,c2,he,_,_,Td,SV⟩:=yc hRS hS.drop (k:=16) oQ;cases he;obtain ⟨_,_,a3,c3,he,_,_,Tf,SX⟩:=yc hRS hS.drop (k:=24) oQ;cases he;have hst:Xx.kE m.length ⟨la,lb,lc,ld⟩ m=Xx.kE (m.drop 32).length (Xx.strip ⟨la,lb,lc,ld⟩ m) (m.drop 32):=by rw [Xx.ahQ h32 (abl _),ad3]
   have hsl:=Xx.acW ⟨la,lb,lc,ld⟩ m;have hsp:Xx.strip ⟨la,lb,lc,ld⟩ m=⟨Xx.lane la (aj.num ((m.drop 0).take 8)),Xx.lane lb (aj.num ((m.drop 8).take 8)),Xx.lane lc (aj.num ((m.drop 16).take 8)),Xx.lane ld (aj.num ((m.drop 24).take 8))⟩:=rfl;obtain ⟨N0,Vs⟩:∃ N,Hid (aj.num ((m.drop 0).take 8)=N):=⟨_,uQ rfl⟩;obtain ⟨N1,IB⟩:∃ N,Hid (aj.num ((m.drop 8).take 8)=N):=⟨_,uQ rfl⟩;obtain ⟨N2,qY⟩:∃ N,Hid (aj.num ((m.drop 16).take 8)=N):=⟨_,uQ rfl⟩;obtain ⟨N3,Vt⟩:∃ N,Hid (aj.num ((m.drop 24).take 8)=N):=⟨_,uQ rfl⟩;rw [Vs.o,IB.o,qY.o,Vt.o]at hsp;obtain ⟨n0,Vg⟩:∃ N,Hid (Xx.lane la N0=N):=⟨_,uQ rfl⟩;obtain ⟨n1',Vh⟩:∃ N,Hid (Xx.lane lb N1=N):=⟨_,uQ rfl⟩;obtain ⟨yG,Vj⟩:∃ N,Hid (Xx.lane lc N2=N):=⟨_,uQ rfl⟩;obtain ⟨FW,Vl⟩:∃ N,Hid (Xx.lane ld N3=N):=⟨_,uQ rfl⟩;rw [Vg.o,Vh.o,Vj.o,Vl.o]at hsp
   rw [hsp]at hst hsl;have nD:=uQ (heq.trans hst);have uP:=uQ hsl;have aeM:=uQ rs4;have G9:=uQ h32;have Hll:=uQ (show (m.drop 32).length<m.length/\(m.drop 32).length<=l.length by rw [ad3];omega);replace SQ:=uQ SQ;replace SS:=uQ SS;replace SV:=uQ SV;replace SX:=uQ SX;replace S9:=uQ S9;replace Tc:=uQ Tc;replace Td:=uQ Td;replace Tf:=uQ Tf;have aeN:=uQ hrun4;have cc:(32:Int)<=(m.length:Int):=oQ;clear hst hsl hsp heq hRS rs4 hlt hml k1 k2 h32 hrun4;go_wp2_with fail
   go_loopg [45] 4 (λg iq wr=>∃ (i:Nat),g=4-i/\i<=4/\iq=.int .i64 i/\Sat w0 wr ((match i with|0=>jI p ⟨la,lb,lc,ld⟩ (.slice none 0 0) l.length|1=>jI p ⟨n0,lb,lc,ld⟩ (.slice none 0 0) l.length|2=>jI p ⟨n0,n1',lc,ld⟩ (.slice none 0 0) l.length|3=>jI p ⟨n0,n1',yG,ld⟩ (.slice none 0 0) l.length|_=>jI p ⟨n0,n1',yG,FW⟩ (.slice none 0 0) l.length)::bQ (.slice (some ⟨bA,0,none⟩) l.length cA) l::F))
   case atStart=>exact ⟨0,rfl,by omega,rfl,hS⟩
   case round=>
    obtain ⟨i,rfl,hi,rfl,uZ⟩:=hrel;clear hS;obtain rfl|rfl|rfl|rfl|rfl:i=0\/i=1\/i=2\/i=3\/i=4:=by omega
    ·have hw1:(8:Int)*0=0:=by decide
     have hw2:IntKind.i64.wrap (0:Int)=(0:Int):=by decide
     have HG:=uQ (λ(w:World) (R:List aG) (hS:Sat w0 w (jI p ⟨la,lb,lc,ld⟩ (.slice none 0 0) l.length::R))=>show w.cell? ⟨p,2,none⟩=some (.int .u64 la) from hS.cellAt 2 _ rfl);go_wp2_with fail;have hS1:=uZ.drew;clear uZ;refine dN [13,16,17] (λw'=>w'.cell? ⟨p,2,none⟩=some (.int .u64 la)) au ?_;have hG:=HG.o _ _ hS1;refine rP 0 ?_ (y:=aZ);refine rP 1 ?_ (y:=aZ);refine rP 2 ?_ (y:=aZ);refine rP 3 ?_ (y:=aZ);refine rP 4 ?_ (y:=dW);refine rP 5 ?_ (y:=bY);refine rP 6 ?_ (y:=jJ);refine rt 7 (h:=?_);refine rP 8 ?_ (y:=aZ);refine rP 9 ?_ (y:=aZ);refine rP 10 ?_ (y:=jH);refine rP 11 ?_ (y:=(MG ak (by go_simp;first|done|rfl) S9.o));refine rP 14 ?_ (y:=dW);refine rP 15 ?_ (y:=bY);clear hG;refine bW 12 ak au (λK hK=>?_)
     (refine qF au ak ?_)
     refine (GX (m.drop 0) (by rw [ad3];have:=G9.o;omega) (SQ.o.more kL) hS1).mono ?_;rintro ee w12 ⟨v,rfl,rfl,rfl⟩;refine hK _ _ (.inr (.inr rfl)) ?_;clear hK;rw [Vs.o];refine bW 13 ak au (λK hK=>?_)
     (refine iC au ak ak ?_)
     refine (wP la N0 hS1).mono ?_;rintro ee jM ⟨v,rfl,rfl,h13⟩;refine hK _ _ (.inl rfl) ?_;clear hK hS1;rw [Vg.o];refine rP 16 ?_ (y:=jJ);refine bW 17 ak au (λK hK=>?_);refine kQ (v:= .int .u64 n0) h13 ak ak ah cZ (by exact (by decide:3<=8)) au ah ?_;intro Bl h17;refine hK _ _ (.inl rfl) ?_;clear hK h13;refine dH au ?_
     try simp only [kP]
     try go_frame
     have h18:Sat w0 Bl (jI p ⟨n0,lb,lc,ld⟩ (.slice none 0 0) l.length::bQ (.slice (some ⟨bA,0,none⟩) l.length cA) l::F):=h17;clear h17;go_wp2_with fail
     go_roundg 3
     case measure=>omega
     case rel=>exact ⟨1,rfl,by omega,rfl,h18⟩
    ·have hw1:(8:Int)*1=8:=by decide
     have hw2:IntKind.i64.wrap (8:Int)=(8:Int):=by decide
     have HG:=uQ (λ(w:World) (R:List aG) (hS:Sat w0 w (jI p ⟨n0,lb,lc,ld⟩ (.slice none 0 0) l.length::R))=>show w.cell? ⟨p,3,none⟩=some (.int .u64 lb) from hS.cellAt 3 _ rfl);go_wp2_with fail;have hS1:=uZ.drew;clear uZ;refine dN [13,16,17] (λw'=>w'.cell? ⟨p,3,none⟩=some (.int .u64 lb)) au ?_;have hG:=HG.o _ _ hS1;refine rP 0 ?_ (y:=aZ);refine rP 1 ?_ (y:=aZ);refine rP 2 ?_ (y:=aZ);refine rP 3 ?_ (y:=aZ);refine rP 4 ?_ (y:=dW);refine rP 5 ?_ (y:=bY);refine rP 6 ?_ (y:=jJ);refine rt 7 (h:=?_);refine rP 8 ?_ (y:=aZ);refine rP 9 ?_ (y:=aZ);refine rP 10 ?_ (y:=jH);refine rP 11 ?_ (y:=(MG ak (by go_simp;first|done|rfl) Tc.o));refine rP 14 ?_ (y:=dW);refine rP 15 ?_ (y:=bY);clear hG;refine bW 12 ak au (λK hK=>?_)
     (refine qF au ak ?_)
     refine (GX (m.drop 8) (by rw [ad3];have:=G9.o;omega) (SS.o.more kL) hS1).mono ?_;rintro ee w12 ⟨v,rfl,rfl,rfl⟩;refine hK _ _ (.inr (.inr rfl)) ?_;clear hK;rw [IB.o];refine bW 13 ak au (λK hK=>?_)
     (refine iC au ak ak ?_)
     refine (wP lb N1 hS1).mono ?_;rintro ee jM ⟨v,rfl,rfl,h13⟩;refine hK _ _ (.inl rfl) ?_;clear hK hS1;rw [Vh.o];refine rP 16 ?_ (y:=jJ);refine bW 17 ak au (λK hK=>?_);refine kQ (v:= .int .u64 n1') h13 ak ak ah cZ (by exact (by decide:4<=8)) au ah ?_;intro Bl h17;refine hK _ _ (.inl rfl) ?_;clear hK h13;refine dH au ?_
     try simp only [kP]
     try go_frame
     have h18:Sat w0 Bl (jI p ⟨n0,n1',lc,ld⟩ (.slice none 0 0) l.length::bQ (.slice (some ⟨bA,0,none⟩) l.length cA) l::F):=h17;clear h17;go_wp2_with fail
     go_roundg 2
     case measure=>omega
     case rel=>exact ⟨2,rfl,by omega,rfl,h18⟩
    ·have hw1:(8:Int)*2=16:=by decide
     have hw2:IntKind.i64.wrap (16:Int)=(16:Int):=by decide
     have HG:=uQ (λ(w:World) (R:List aG) (hS:Sat w0 w (jI p ⟨n0,n1',lc,ld⟩ (.slice none 0 0) l.length::R))=>show w.cell? ⟨p,4,none⟩=some (.int .u64 lc) from hS.cellAt 4 _ rfl);go_wp2_with fail;have hS1:=uZ.drew;clear uZ;refine dN [13,16,17] (λw'=>w'.cell? ⟨p,4,none⟩=some (.int .u64 lc)) au ?_;have hG:=HG.o _ _ hS1;refine rP 0 ?_ (y:=aZ);refine rP 1 ?_ (y:=aZ);refine rP 2 ?_ (y:=aZ);refine rP 3 ?_ (y:=aZ);refine rP 4 ?_ (y:=dW);refine rP 5 ?_ (y:=bY);refine rP 6 ?_ (y:=jJ);refine rt 7 (h:=?_);refine rP 8 ?_ (y:=aZ);refine rP 9 ?_ (y:=aZ);refine rP 10 ?_ (y:=jH);refine rP 11 ?_ (y:=(MG ak (by go_simp;first|done|rfl) Td.o));refine rP 14 ?_ (y:=dW);refine rP 15 ?_ (y:=bY);clear hG;refine bW 12 ak au (λK hK=>?_)
     (refine qF au ak ?_)
     refine (GX (m.drop 16) (by rw [ad3];have:=G9.o;omega) (SV.o.more kL) hS1).mono ?_;rintro ee w12 ⟨v,rfl,rfl,rfl⟩;refine hK _ _ (.inr (.inr rfl)) ?_;clear hK;rw [qY.o];refine bW 13 ak au (λK hK=>?_)
     (refine iC au ak ak ?_)
     refine (wP lc N2 hS1).mono ?_;rintro ee jM ⟨v,rfl,rfl,h13⟩;refine hK _ _ (.inl rfl) ?_;clear hK hS1;rw [Vj.o];refine rP 16 ?_ (y:=jJ);refine bW 17 ak au (λK hK=>?_);refine kQ (v:= .int .u64 yG) h13 ak ak ah cZ (by exact (by decide:5<=8)) au ah ?_;intro Bl h17;refine hK _ _ (.inl rfl) ?_;clear hK h13;refine dH au ?_
     try simp only [kP]
     try go_frame
     have h18:Sat w0 Bl (jI p ⟨n0,n1',yG,ld⟩ (.slice none 0 0) l.length::bQ (.slice (some ⟨bA,0,none⟩) l.length cA) l::F):=h17;clear h17;go_wp2_with fail
     go_roundg 1
     case measure=>omega
     case rel=>exact ⟨3,rfl,by omega,rfl,h18⟩
    ·have hw1:(8:Int)*3=24:=by decide
     have hw2:IntKind.i64.wrap (24:Int)=(24:Int):=by decide
     have HG:=uQ (λ(w:World) (R:List aG) (hS:Sat w0 w (jI p ⟨n0,n1',yG,ld⟩ (.slice none 0 0) l.length::R))=>show w.cell? ⟨p,5,none⟩=some (.int .u64 ld) from hS.cellAt 5 _ rfl);go_wp2_with fail;have hS1:=uZ.drew;clear uZ;refine dN [13,16,17] (λw'=>w'.cell? ⟨p,5,none⟩=some (.int .u64 ld)) au ?_;have hG:=HG.o _ _ hS1;refine rP 0 ?_ (y:=aZ);refine rP 1 ?_ (y:=aZ);refine rP 2 ?_ (y:=aZ);refine rP 3 ?_ (y:=aZ);refine rP 4 ?_ (y:=dW);refine rP 5 ?_ (y:=bY);refine rP 6 ?_ (y:=jJ);refine rt 7 (h:=?_);refine rP 8 ?_ (y:=aZ);refine rP 9 ?_ (y:=aZ);refine rP 10 ?_ (y:=jH);refine rP 11 ?_ (y:=(MG ak (by go_simp;first|done|rfl) Tf.o));refine rP 14 ?_ (y:=dW);refine rP 15 ?_ (y:=bY);clear hG;refine bW 12 ak au (λK hK=>?_)
     (refine qF au ak ?_)
     refine (GX (m.drop 24) (by rw [ad3];have:=G9.o;omega) (SX.o.more kL) hS1).mono ?_;rintro ee w12 ⟨v,rfl,rfl,rfl⟩;refine hK _ _ (.inr (.inr rfl)) ?_;clear hK;rw [Vt.o];refine bW 13 ak au (λK hK=>?_)
     (refine iC au ak ak ?_)
     refine (wP ld N3 hS1).mono ?_;rintro ee jM ⟨v,rfl,rfl,h13⟩;refine hK _ _ (.inl rfl) ?_;clear hK hS1;rw [Vl.o];refine rP 16 ?_ (y:=jJ);refine bW 17 ak au (λK hK=>?_);refine kQ (v:= .int .u64 FW) h13 ak ak ah cZ (by exact (by decide:6<=8)) au ah ?_;intro Bl h17;refine hK _ _ (.inl rfl) ?_;clear hK h13;refine dH au ?_
     try simp only [kP]
     try go_frame
     have h18:Sat w0 Bl (jI p ⟨n0,n1',yG,FW⟩ (.slice none 0 0) l.length::bQ (.slice (some ⟨bA,0,none⟩) l.length cA) l::F):=h17;clear h17;go_wp2_with fail
     go_roundg 0
     case measure=>omega
     case rel=>exact ⟨4,rfl,by omega,rfl,h18⟩
    ·have hS4:Sat w0 wr (jI p ⟨n0,n1',yG,FW⟩ (.slice none 0 0) l.length::bQ (.slice (some ⟨bA,0,none⟩) l.length cA) l::F):=uZ;clear uZ;go_wp2_with ((with_reducible refine I8 ⟨?_⟩);refine MB ah ah aeN.o ?_)
     go_roundg (m.drop 32).length
     case measure=>exact Hll.o.1
     case rel=>exact ⟨⟨n0,n1',yG,FW⟩,m.drop 32,rfl,Hll.o.2,uP.o,by have k:=aeM.o;rw [ad3]at k;exact k,nD.o,hS4⟩
  ·have hst:=uQ (show Xx.kE l.length Xx.Ln.zero l=(⟨la,lb,lc,ld⟩,m) from heq.trans (Xx.ahR h32));have kN:=uQ hRS;obtain ⟨a,c,rfl,k1,k2⟩:=hRS.len hS.drop;have cc:¬ (32:Int)<=(m.length:Int):=oQ;clear heq hlt hml h32 hRS k1 k2;go_wp2_with ((with_reducible refine dh ⟨?_⟩);refine gq (v:= .slice a m.length c) hS ah ah ah cZ (by exact ai7 7) au ah ?_;intro w9 h9)
   go_end0
   exact ⟨_,rfl,.slice a m.length c,bA,cA,by rw [hst.o];exact h9,by rw [hst.o];exact kN.o⟩
theorem aiF {ln:Xx.Ln}{m:Bs} (hln:ln.lt) (hn:n<=1073741824) (hm:m.length<=1073741824) (hr:RS w0 F rv m) (h:Sat w0 w (jI p ln rv n::F)):Calls prog 210 #[ptr p] w (aP λv w'=>v=.int .u64 (Xx.f3 (Xx.f2 (Xx.f1 (Xx.tail (((if 32<=n then Xx.joined ln else 2870177450012600261)+n)%18446744073709551616) m))):Nat)/\Sat w0 w' (jI p ln rv n::F)):=by
 obtain ⟨ra,rc,rfl,k1,k2⟩:=(hr.more (G:=jI p ln rv n::F) kL).len h;have Hr:=uQ (λ(w:World) (x:Nat) (hx:x<18446744073709551616) (hS:Sat w0 w (jI p ln (.slice ra m.length rc) n::F))=>aoH x hx m hm (hr.more kL) hS);have c0:w.cell? ⟨p,0,none⟩=some (.bool true):=h.cellAt 0 _ rfl;have Hj:=uQ (λ(w:World) (hS:Sat w0 w (jI p ln (.slice ra m.length rc) n::F))=>ai9 hln hS);have YJ:=uQ (λ(w:World) (hS:Sat w0 w (jI p ln (.slice ra m.length rc) n::F))=>show w.cell? ⟨p,7,none⟩=some (.int .u64 n)/\w.cell? ⟨p,6,none⟩=some (.slice ra m.length rc) from ⟨hS.cellAt 7 _ rfl,hS.cellAt 6 _ rfl⟩);have Hn:=uQ hn;clear hr hm k1 k2 hn;by_cases h32:32<=n
 ·rw [acg h32];generalize Xx.joined ln=J at *
  obtain ⟨x,e1,hx,e2⟩:=acU J n;change (J+n)%18446744073709551616=x at e2;rw [e2];have htl:Xx.tail x m<18446744073709551616:=Xx.acZ x m (show x<Xx.W from hx);have nG:=uQ (λ(w:World) (hS:Sat w0 w (jI p ln (.slice ra m.length rc) n::F))=>Hr.o w x hx hS);generalize Xx.tail x m=y at *
  obtain ⟨t1,t2,t3,t4,t5,f1,f2,f3,f4,f5,f6⟩:=X7 htl;have Nk:=uQ f6;have uO:=uQ e1;have Hf:=uQ (And.intro f1 (And.intro f2 (And.intro f3 (And.intro f4 f5))));have ci:(32:Int)<=(n:Int):=oQ;clear hx htl f6 e1 e2 f1 f2 f3 f4 f5 Hr h32 hln;go_enter func210,ntmps210;go_wp2_with ((with_reducible refine bP ⟨?_⟩);refine fZ h ah aU bI ak au ?_);refine (Hj.o _ h).mono ?_;rintro ee w1 ⟨v,rfl,rfl,h1⟩;clear h c0 Hj;go_wp2_with fail;have hS:=h1.drew;clear h1;refine dN [10,11] (λw'=>w'.cell? ⟨p,7,none⟩=some (.int .u64 n)/\w'.cell? ⟨p,6,none⟩=some (.slice ra m.length rc)) au ?_;have hG:=YJ.o _ hS;refine rP 0 ?_ (y:=aZ);refine rP 1 ?_ (y:=aZ);refine rP 2 ?_ (y:=dW);refine rP 3 ?_ (y:=bY);refine rt 4 (h:=?_);refine rp 5 (hy:=(BA ak ak (by intro wq;have e1:=uO.o;(go_simp);first|done|exact wQ))) (h:=?_);refine rP 6 ?_ (y:=aZ);refine rP 7 ?_ (y:=dW)
  refine rP 8 ?_ (y:=bY);refine rt 9 (h:=?_);clear hG;refine bW 10 ak au (λK hK=>?_)
  (refine iC au ak ak ?_)
  refine (nG.o _ hS).mono ?_;rintro ee w2 ⟨v,rfl,rfl,h2⟩;refine hK _ _ (.inl rfl) ?_;clear hK hS nG;refine rP 11 ?_ (y:=iy);refine dH au ?_
  try simp only [kP]
  try go_frame
  obtain ⟨f1,f2,f3,f4,f5⟩:=Hf.o;go_wp2;go_ret;exact ⟨_,rfl,by rw [Nk.o];rfl,h2⟩
 ·rw [abj h32];obtain ⟨x,e1,hx,e2⟩:=anq n;rw [e2];have htl:Xx.tail x m<18446744073709551616:=Xx.acZ x m (show x<Xx.W from hx);have nG:=uQ (λ(w:World) (hS:Sat w0 w (jI p ln (.slice ra m.length rc) n::F))=>Hr.o w x hx hS);generalize Xx.tail x m=y at *
  obtain ⟨t1,t2,t3,t4,t5,f1,f2,f3,f4,f5,f6⟩:=X7 htl;have Nk:=uQ f6;have uO:=uQ e1;have Hf:=uQ (And.intro f1 (And.intro f2 (And.intro f3 (And.intro f4 f5))));have ci:¬ (32:Int)<=(n:Int):=oQ;clear hx htl f6 e1 e2 f1 f2 f3 f4 f5 Hr h32 hln Hj;go_enter func210,ntmps210;go_wp2_with ((with_reducible refine bP ⟨?_⟩);refine fZ h ah aU bI ak au ?_);have h1:=h;clear h c0;go_wp2_with fail;have hS:=h1.drew;clear h1;refine dN [10,11] (λw'=>w'.cell? ⟨p,7,none⟩=some (.int .u64 n)/\w'.cell? ⟨p,6,none⟩=some (.slice ra m.length rc)) au ?_;have hG:=YJ.o _ hS;refine rP 0 ?_ (y:=aZ);refine rP 1 ?_ (y:=aZ);refine rP 2 ?_ (y:=dW);refine rP 3 ?_ (y:=bY);refine rt 4 (h:=?_);refine rp 5 (hy:=(BA ak ak (by intro wq;have e1:=uO.o;(go_simp);first|done|exact wQ))) (h:=?_);refine rP 6 ?_ (y:=aZ);refine rP 7 ?_ (y:=dW);refine rP 8 ?_ (y:=bY);refine rt 9 (h:=?_);clear hG
  refine bW 10 ak au (λK hK=>?_)
  (refine iC au ak ak ?_)
  refine (nG.o _ hS).mono ?_;rintro ee w2 ⟨v,rfl,rfl,h2⟩;refine hK _ _ (.inl rfl) ?_;clear hK hS nG;refine rP 11 ?_ (y:=iy);refine dH au ?_
  try simp only [kP]
  try go_frame
  obtain ⟨f1,f2,f3,f4,f5⟩:=Hf.o;go_wp2;go_ret;exact ⟨_,rfl,by rw [Nk.o];rfl,h2⟩
theorem UG (hl0:l≠[]) (hl:l.length<=1073741824) (hr:RS w0 F bv l) (h:Sat w0 w F):Calls prog 174 #[bv,.int .u64 0] w (aP λv w'=>v=.int .u64 (Xx.sum l:Nat)/\Sat w0 w' F):=by
 obtain ⟨ba,bc,rfl,_,_⟩:=hr.len h;have Hr:=uQ hr;have Hl:=uQ hl;have Em:=uQ hl0;have Hz:=uQ (show Xx.sum l=Xx.f3 (Xx.f2 (Xx.f1 (Xx.tail (((if 32<=l.length then Xx.joined (Xx.kE l.length Xx.Ln.zero l).1 else 2870177450012600261)+l.length)%18446744073709551616) (Xx.kE l.length Xx.Ln.zero l).2))) from rfl);clear hr hl hl0;go_enter func174,ntmps174;go_wp2_with fail;refine (akb h).mono ?_;rintro ee w1 ⟨v,rfl,p,rfl,h1⟩;go_wp2_with fail;refine (aiG Em.o Hl.o Hr.o h1).mono ?_;rintro ee w2 ⟨v,rfl,rv,bA,cA,h2,hrs⟩;have hgl:=Xx.Yx l.length Xx.Ln.zero l Xx.adP;have hlen:(Xx.kE l.length Xx.Ln.zero l).2.length<=1073741824:=adt (Xx.Yw l.length Xx.Ln.zero l) Hl.o;have hs:=aiF hgl Hl.o hlen hrs h2;rw [<-Hz.o]at hs;clear hgl hlen hrs h h1 h2 Hz;go_wp2_with fail;refine hs.mono ?_;rintro ee w3 ⟨v,rfl,rfl,h3⟩;clear hs;go_wp2;go_ret;exact ⟨_,rfl,rfl,h3.drop.drop⟩
section
variable {K:Act->World->Prop}{E:Prop}{pos:String}
theorem adF (hs:Sat w0 w (jB v l::F)) (hv:a.eval s=v) (hy:a.eval y=vy) (hx:bF 1 vy (aA m) w) (hm:m≠[]) (hlen:l.length+m.length<=1099511627776) (hK:∀ v' w',Sat w0 w' (jB v' (l++m)::F)->K (a.put dst v') w') :
  Oper.wp prog ⟨dst,.call { callee:= .builtin .append,args:=#[s,y],argTypes:=#[39,39] },39,pos,after,none⟩ a w K Q:=by
 obtain ⟨i,hi,hz0,hz1,hz2⟩:=vC;have h63:(aA l).length+(aA m).length<=maxLen:=by rw [aX,aX];unfold maxLen;omega
 have hby:((aA l).length+(aA m).length)*i.bytes<=140737488355328:=by rw [aX,aX,hz2];omega
 obtain ⟨v',w',hr,hS⟩:=al7 (P:=prog) 39 39 5 i _ underlying39 hi hz0 hz1 ah oQ (wG _) (λe=>hm (by cases m with|nil=>rfl|cons z r=>cases e)) hs hx h63 hby;rw [<-zW]at hS;unfold Oper.wp execOp;simp only [resolve,invoke,builtin,ad1,aek,adu,aeX,ad7,aeF,hv,hy,hr];exact hK _ _ hS
theorem XE (hs:Sat w0 w (jB v l::F)) (hv:a.eval s=v) (hy:a.eval y=vy) (hx:bF 1 vy (aA m) w) (hm:m≠[]) (hlen:l.length+m.length<=1099511627776) (hK:∀ v' w',Sat w0 w' (jB v' (l++m)::F)->K (a.put dst v') w') :
  if Region.wanted ⟨dst,.call { callee:= .builtin .append,args:=#[s,y],argTypes:=#[39,39] },39,pos,after,none⟩ (yielded ops a.tmps)=true then
   Oper.wp prog ⟨dst,.call { callee:= .builtin .append,args:=#[s,y],argTypes:=#[39,39] },39,pos,after,none⟩ a w K Q else E:=yj rfl (adF hs hv hy hx hm hlen hK)
theorem Ut (hs:Sat w0 w (jB v l::F)) (hv:a.eval s=v) (hy:a.eval y=vy) (hx:bF 1 vy (aA m) w) (hm:m≠[]) (hlen:l.length+m.length<=1099511627776) (hK:∀ v' w',Sat w0 w' (jB v' (l++m)::F)->wpList prog ops Q rest (a.put dst v') w') :
  wpList prog ops Q (⟨dst,.call { callee:= .builtin .append,args:=#[s,y],argTypes:=#[39,39] },39,pos,after,none⟩::rest) a w:=
 aeV rfl λ_ hK'=>adF hs hv hy hx hm hlen λv' w' h=>hK' _ _ (hK v' w' h)
theorem ae7 (h:Sat w0 w (jB v l::F)) (e:l=m):Sat w0 w (jB v m::F):=e ▸ h
theorem ae8 (h:Sat w0 w (jB v l::F)):Sat w0 w (jB v (l++[])::F):=by rw [adV];exact h
theorem afr (h:Stop (wpList P ops Q (⟨dst,.slice ty x none none none,t,pos,after,none⟩::rest) a w)):wpList P ops Q (⟨dst,.slice ty x none none none,t,pos,after,none⟩::rest) a w:=h.o
theorem aot (hx:a.eval x=v) (hr:∀ w,(Instr.sliceAt ty v none none none).run P w=.ok vy w) (h:wpList P ops Q rest (a.put dst vy) w):wpList P ops Q (⟨dst,.slice ty x none none none,t,pos,after,none⟩::rest) a w:=
 aeV rfl λ_ hK=>by
  unfold Oper.wp execOp;simp only [hx,aoC,ad1,hr,adu,aek];exact hK _ _ h
theorem Wp (h:Stop (wpList P ops Q (⟨dst,.call { callee:= .builtin .append,args:=#[s,y],argTypes:=#[39,39] },t,pos,after,none⟩::rest) a w)):wpList P ops Q (⟨dst,.call { callee:= .builtin .append,args:=#[s,y],argTypes:=#[39,39] },t,pos,after,none⟩::rest) a w:=h.o
theorem XG (sb:ByteArray) (hl:sb.data.toList=l) (hle:l.length<=1073741824) (hs:Sat w0 w F) (hx:a.eval x=.string sb) (hK:∀ v' w',Sat w0 w' (jB v' l::F)->K (a.put dst v') w') :
  if Region.wanted ⟨dst,.convert 9 39 x,t,pos,after,none⟩ (yielded ops a.tmps)=true then Oper.wp prog ⟨dst,.convert 9 39 x,t,pos,after,none⟩ a w K Q else E:=by
 refine yj rfl ?_;have hr:=Lib.run_convert_string_bytes (P:=prog) w 9 39 5 sb underlying9 underlying39 underlying5;unfold Oper.wp execOp;simp only [hx,ad1,hr,adu,aek];exact hK _ _ (afk hs 5 sb l hl hle)
theorem RS.Q7 (h:Sat w0 w (jB v l::F)):RS w0 (jB v l::F) v l:=by
 refine ⟨λw hw=>Oi hw,?_⟩;rcases Oh h with h|⟨b,n,cap,cs,m,rfl,hl,hn,hc,hcm,htk,hmk,hp⟩
 ·obtain ⟨a,n,c,e,h1,h2,h3⟩:=BU h;exact ⟨a,n,c,e,h1,h2⟩
 ·exact ⟨_,n,cap,rfl,hn,hcm⟩
end
theorem kX (r:RV) (h:r.x.key.length=32):(dA r).toArray.size=33:=by rw [abn];exact lQ r h
theorem rvG (r:RV) (h:r.x.key.length=32):(dA r).toArray.getD 32 undef=r.nv:=by
 rw [ajS,show (dA r).toArray[32]?=some r.nv from AX (x:=r.x) (nv:=r.nv) h];rfl
theorem amG {w:World}{r:RV} (h:bF 1 r.nv (ints r.x.nums) w):(dA r).toArray.toList.all (·.oneCell')=true:=by
 obtain ⟨a,n,c,e,_⟩:=h;unfold dA;rw [e];rw [ad6,aiJ,tH];rfl
def vT:RV:=⟨⟨aj.zero32,[]⟩,.slice none 0 0⟩
theorem zq:jF prog 221=some (.agg (dA vT).toArray):=by kernel_rfl
theorem JM {w:World}{sv:Value}{l:List Int}{i:Nat}{s:Int} (h:bF 1 sv (ints l) w) (hs:l[i]?=some s):∃ bk off c,sv=.slice (some ⟨bk,off,none⟩) l.length c/\w.cell? ⟨bk,off+i,none⟩=some (.int .i64 s):=by
 obtain ⟨bk,off,cc,hsv,hcell⟩:=jd (f:=λi:Int=>[Value.int .i64 i]) (k:=1) (l:=l) (λu _=>rfl) yJ0 hs aN;have f0:=hcell 0 _ rfl;rw [aes,ai6]at f0;exact ⟨bk,off,cc,hsv,f0⟩
theorem aiZ {w:World}{sv:Value}{l:List Int} (h:bF 1 sv (ints l) w):∃ a c,sv=.slice a l.length c:=
 jK (f:=λi:Int=>[Value.int .i64 i]) (k:=1) (l:=l) (λu _=>rfl) yJ0 aN
theorem WO (fG:ByteArray) (mg:Bs) (hmb:fG.data.toList=mg) (qI:mg.length=8) (kd:Bool) (k:Nat) (hk:k<=3) (rs:List RV) (hok:aT.Ok k kd (rs.map (·.x))) (hr:Ro w0 F (bF 33 lv (rs.flatMap dA))) (he:∀ r∈rs,su w0 F r) (h:Sat w0 w F) :
  Calls prog 132 #[.agg (mZ fG kd k),lv] w (aP λv w'=>∃ bv,v=.tuple #[bv,errno 0]/\Sat w0 w' (jB bv (aT.book Xx.sum mg kd (rs.map (·.x)))::F)):=by
 obtain ⟨la,lc,rfl⟩:=jK (λr hr=>lQ r (he r hr).key) (hr w h) aN;have hn:rs.length<=65536:=by have:=hok.len;rwa [aa4]at this
 have Hr:=uQ hr;have He:=uQ he;have Hn:=uQ hn;have dB:=uQ hok;have BK:=uQ hmb;have pK:=uQ qI;have c1:¬ (65536:Int)<(rs.length:Int):=oQ;have c2:IntKind.u64.wrap (rs.length:Int)=(rs.length:Int):=by rw [ajd];omega
 clear hr he hn hok hmb qI;go_enter func132,ntmps132;go_wp2_with (with_reducible apply fD);refine ⟨fE h ak ak ?_⟩;intro b2 w2 hS0;replace hS0:Sat w0 w2 (pt b2 (.cells (mZ fG kd k) 213 (0,0))::F):=hS0;clear h;go_wp2_with fail;have hS1:=hS0.drew;clear hS0;have hG0:=hS1.cellAt 0 (.string fG) rfl;refine dN [2,7,8] (λw'=>w'.cell? ⟨b2,0,none⟩=some (.string fG)) au ?_;have hG:=hG0;refine rP 0 ?_ (y:=bY);refine rt 1 (h:=?_);clear hG;refine rP 3 ?_ (y:=aZ);refine rP 4 ?_ (y:=(qU ak dw));refine rP 5 ?_ (y:=(UJ ak dw));refine sO 2 6 ak ak au (λK hK=>?_) (λK hK=>?_)
 focus
  refine XG fG BK.o (by rw [pK.o];decide) hS1 ak ?_;intro v16 w3 h3;refine hK _ _ (.inl rfl) ?_;clear hK hS1 hG0;refine bW 6 ak au (λK hK=>?_)
  (refine iC au ak ak ?_)
  refine (Dl rs.length yH0 h3).mono ?_;rintro ee w4 ⟨v,rfl,h4,_⟩;refine hK _ _ (.inr (.inl ((h4.drop.drop).cellAt 0 (.string fG) rfl))) ?_;clear hK h3;refine bW 7 ak au (λK hK=>?_);refine XE (h4.sb:Sat w0 _ (jB v16 mg::bQ v (aj.le rs.length 4)::pt b2 (.cells (mZ fG kd k) 213 (0,0))::F)) ak ak (Sat.rd h4) (λe=>by cases e) (by rw [pK.o,aj.jk];decide) ?_;intro v6 w5 h5;refine hK _ _ (.inl rfl) ?_;clear hK h4;refine rP 8 ?_ (y:=iy);refine dH au ?_
  try simp only [kP]
  try go_frame
  have hB:Sat w0 w5 (jB v6 (mg++aj.le rs.length 4)::pt b2 (.cells (mZ fG kd k) 213 (0,0))::F):=h5.sb;clear h5
 rotate_left
 focus
  (refine iC au ak ak ?_)
  refine (Dl rs.length yH0 hS1).mono ?_;rintro ee w4 ⟨v,rfl,h4,_⟩;refine hK _ _ (.inr (.inl ((h4.drop).cellAt 0 (.string fG) rfl))) ?_;clear hK hS1 hG0;refine bW 2 ak au (λK hK=>?_);refine XG fG BK.o (by rw [pK.o];decide) h4 ak ?_;intro v16 w3 h3;refine hK _ _ (.inl rfl) ?_;clear hK h4;refine bW 7 ak au (λK hK=>?_);refine XE (h3.sb:Sat w0 _ (jB v16 mg::bQ v (aj.le rs.length 4)::pt b2 (.cells (mZ fG kd k) 213 (0,0))::F)) ak ak (Sat.rd h3.drop) (λe=>by cases e) (by rw [pK.o,aj.jk];decide) ?_;intro v6 w5 h5;refine hK _ _ (.inl rfl) ?_;clear hK h3;refine rP 8 ?_ (y:=iy);refine dH au ?_
  try simp only [kP]
  try go_frame
  have hB:Sat w0 w5 (jB v6 (mg++aj.le rs.length 4)::pt b2 (.cells (mZ fG kd k) 213 (0,0))::F):=h5.sb;clear h5
 all_goals
  as_aux_lemma=>
   have hX0:=uQ hB;go_wp2_with fail
   go_loopg [6,24] rs.length (λg bq iq wr=>∃ (i:Nat) (bv:Value),g=rs.length-i/\i<=rs.length/\bv=bq/\iq=.int .i64 i/\Sat w0 wr (jB bv (mg++aj.le rs.length 4++aT.jP kd ((rs.map (·.x)).take i))::pt b2 (.cells (mZ fG kd k) 213 (0,0))::F))
   case atStart=>exact ⟨0,_,rfl,aea _,rfl,rfl,by rw [aeO,aT.Sr,adV];exact hB⟩
   case round=>
    obtain ⟨i,bv,rfl,hi,rfl,rfl,hS⟩:=hrel;clear hB hX0;by_cases hlt:i<rs.length
    ·as_aux_lemma=>
     have c3:(i:Int)<(rs.length:Int):=oQ;have hwi:IntKind.i64.wrap ((i:Int)+1)=(i:Int)+1:=adr _ yH0;obtain ⟨r,hx⟩:∃ q,rs[i]?=some q:=⟨_,aay hlt⟩;have H1:=uQ (He.o r (abA hx));have lg:=uQ (dB.o.row r.x (apt (abA hx)));have htk:=aT.alL (kd:=kd) (show (rs.map (·.x))[i]?=some r.x by rw [adW,hx];rfl);have YR:(mg++aj.le rs.length 4++aT.jP kd ((rs.map (·.x)).take i)).length<=3000000:=by
      rw [aaL,aaL,pK.o,aj.jk,aT.Sm _ (λq hq=>dB.o.row q (aeP hq)),ads,aa4];have h1:=Hn.o;have h2:min i rs.length*aT.jL kd k<=65536*44:=an9 oQ (aT.KP hk);omega
     obtain ⟨bk,off,c',hsv,hcell⟩:=jd (f:=dA) (k:=33) (λr hr=>lQ r (He.o r hr).key) (Hr.o _ hS.drop.drop) hx aN;cases hsv;have ZA:mg++aj.le rs.length 4++aT.jP kd ((rs.map (·.x)).take (i+1))=(mg++aj.le rs.length 4++aT.jP kd ((rs.map (·.x)).take i))++(if kd then r.x.key else [])++aT.jv r.x.nums:=by
      rw [htk];unfold aT.rowB;simp only [adQ]
     generalize mg++aj.le rs.length 4++aT.jP kd ((rs.map (·.x)).take i)=X at *
     have IJ:=uQ ZA;have HX:=uQ YR;have bT:=uQ hlt;clear hx htk ZA YR hlt hi
     go_wp2_with (first
      |((with_reducible refine bP ⟨?_⟩);refine iR (b:=bk) (o:=off+i*33) (dA r) ah hcell underlying221 rfl zA0 ?_)
      |(with_reducible apply fB))
     refine ⟨eF zq hS rfl ?_⟩;intro b8 w8 h8;clear hS hcell;go_wp2_with (with_reducible apply dh);refine ⟨fP (dA r).toArray h8 ah ah (by rw [kX _ H1.o.key];rfl) cZ zB0 (amG (H1.o.rd _ h8.drop.drop.drop)) ?_⟩;intro w9 h9;clear h8;have hgd:(dA r).toArray.getD 32 undef=r.nv:=rvG _ H1.o.key;obtain ⟨kb,hkb⟩:∃ kb,Hid (kd=kb):=⟨_,uQ rfl⟩;cases kd
     focus
      have hQ:=ae8 (h9.pick bf);have eG:=uQ (show mg++aj.le rs.length 4++aT.jP false ((rs.map (·.x)).take (i+1))=X++[]++aT.jv r.x.nums from IJ.o);have HY:=uQ (show (X++([]:Bs)).length<=3000100 by rw [adV];have:=HX.o;omega);generalize X++([]:Bs)=Y at *
      clear h9 IJ HX
     rotate_left
     focus
      have hrd:bF 1 (.slice (some ⟨b8,0,none⟩) 32 32) (aA r.x.key) w9:=⟨_,_,_,rfl,by rw [aX,H1.o.key],λj z hj=>⟨_,rfl,by rw [zS,ad8];exact h9.cellP aU j (Ld hj)⟩⟩;have eG:=uQ (show mg++aj.le rs.length 4++aT.jP true ((rs.map (·.x)).take (i+1))=X++r.x.key++aT.jv r.x.nums from IJ.o);have HY:=uQ (show (X++r.x.key).length<=3000100 by rw [aaL,H1.o.key];have:=HX.o;omega);have hsl:∀ w,(Instr.sliceAt 50 (.pointer (some ⟨b8,0,none⟩)) none none none).run prog w=.ok (.slice (some ⟨b8,0,none⟩) 32 32) w:=λw=>by kernel_rfl
      go_wp2_with (first
       |((with_reducible refine bP ⟨?_⟩);refine fZ h9 ah (aS bf) bI ak au ?_)
       |(with_reducible apply afr))
      refine ⟨aot ah hsl ?_⟩;refine Ut (m:=r.x.key) (h9.pick bf) ah ah hrd (λe=>by have:=H1.o.key;rw [e]at this;cases this) (by rw [H1.o.key];have:=HX.o;omega) ?_;intro v33 w10 hQ;generalize X++r.x.key=Y at *
      clear h9 IJ HX hrd
     all_goals
      obtain ⟨na,nc,vk⟩:=aiZ (H1.o.rd _ (hQ.drop.drop.drop));rw [vk]at hgd;have Hnv:=uQ vk;go_wp2_with ((with_reducible refine bP ⟨?_⟩);first|refine fZ (o:=32) hQ ah bf (by rw [kX _ H1.o.key];decide) hgd au ?_|refine fZ hQ ah (aS bf) bI ak au ?_);clear hgd;rw [hkb.o]at hQ
      go_loopg [6,37] r.x.nums.length (λg bq jq wr=>∃ (j:Nat) (cv:Value),g=r.x.nums.length-j/\j<=r.x.nums.length/\cv=bq/\jq=.int .i64 j/\Sat w0 wr (jB cv (Y++aT.jv (r.x.nums.take j))::pt b8 (.cells (dA r).toArray 221 (0,0))::pt b2 (.cells (mZ fG kb k) 213 (0,0))::F))
      case atStart=>exact ⟨0,_,rfl,aea _,rfl,rfl,by rw [aeO,aT.aa1,adV];exact hQ⟩
      case round=>
       obtain ⟨j,cv,rfl,hj,rfl,rfl,hSj⟩:=hrel;clear hQ;by_cases hjl:j<r.x.nums.length
       ·obtain ⟨n,hn⟩:∃ n,r.x.nums[j]?=some n:=⟨_,aay hjl⟩;have hnb:=lg.o.num n (abA hn);obtain ⟨bk2,of2,cc2,e2,hcj⟩:=JM (H1.o.rd _ (hSj.drop.drop.drop)) hn;rw [Hnv.o]at e2;cases e2;have Hnk:=uQ (aT.akn hn);obtain ⟨x,rfl⟩:∃ x:Nat,n=(x:Int):=⟨n.toNat,by omega⟩;have d1:decide ((x:Int)<0)=false:=by rw [ae1];omega
        have d2:decide ((4294967295:Int)<(x:Int))=false:=by rw [ae1];omega
        have d3:¬ (x:Int)<0:=oQ;have d4:¬ (4294967295:Int)<(x:Int):=oQ;have d5:IntKind.u64.wrap (x:Int)=(x:Int):=by rw [ajd];omega
        have c4:(j:Int)<(r.x.nums.length:Int):=oQ;have CP:IntKind.i64.wrap ((j:Int)+1)=(j:Int)+1:=adr _ (by have:=lg.o.len;omega);have Vx:=uQ (λ(w':World) (R:List aG) (hw:Sat w0 w' R)=>Dl x oQ hw);have hyl:(Y++aT.jv (r.x.nums.take j)).length<=4000000:=by rw [aaL,aT.aa0,ads];have:=lg.o.len;have:=HY.o;omega
        have IL:=uQ hyl;have kK:=uQ hjl;clear hn hnb hjl hj hyl;go_wp2_with fail;refine (Vx.o _ _ hSj).mono ?_;rintro ee w5 ⟨v,rfl,h5,_⟩;clear Vx hcj hSj;go_wp2_with (with_reducible apply Wp);refine ⟨Ut (m:=aj.le x 4) (h5.pick bf) ah ah (Sat.rd h5) (λe=>by cases e) (by rw [aj.jk];have:=IL.o;omega) ?_⟩;intro v6 w6 h6;go_wp2_with fail
        go_roundg (r.x.nums.length-(j+1))
        case measure=>have:=kK.o;omega
        case rel=>exact ⟨j+1,_,rfl,aec kK.o,rfl,by first|rfl|go_num,by rw [Hnk.o,<-adQ];exact h6.sb⟩
       ·have c4:¬ (j:Int)<(r.x.nums.length:Int):=by omega
        obtain rfl:j=r.x.nums.length:=by omega
        rw [aeo]at hSj;clear hj hjl;go_wp2_with fail
        go_roundg (rs.length-(i+1))
        case measure=>have:=bT.o;omega
        case rel=>exact ⟨i+1,_,rfl,aec bT.o,rfl,by first|rfl|go_num,by rw [eG.o];rw [<-hkb.o]at hSj;exact hSj.sb⟩
    ·as_aux_lemma=>
     have c3:¬ (i:Int)<(rs.length:Int):=oQ;obtain rfl:i=rs.length:=by omega
     have eb:mg++aj.le rs.length 4++aT.jP kd ((rs.map (·.x)).take rs.length)=aT.body mg kd (rs.map (·.x)):=by
      unfold aT.body;rw [ad9 (by rw [aa4];exact abl _),aa4]
     have hSb:=ae7 hS eb;have oz:=uQ (aT.afO (mg:=mg) pK.o hk dB.o)
     have qZ:=uQ (show aT.body mg kd (rs.map (·.x))≠[] from λe=>by
      have:=aT.BR (mg:=mg) (kd:=kd) pK.o dB.o.row;rw [e]at this;simp only [aeL]at this;omega)
     have qJ:=RQ fG kd k rs yH0 (Ro.os Hr.o) (λr hr=>(He.o r hr).sub kL) hSb;clear hS hi hlt eb;go_wp2_with ((with_reducible refine bP ⟨?_⟩);refine iQ hSb ah bf underlying213 rfl au ?_);refine qJ.mono ?_;rintro ee w5 ⟨v,rfl,t,rfl,ht,h5⟩;obtain rfl:t=true:=ht.2 dB.o.rise;clear qJ hSb ht;go_wp2_with fail;have hxs:=UG qZ.o (by have:=oz.o;omega) (RS.Q7 h5) h5;obtain ⟨S,HS⟩:∃ S,Hid (Xx.sum (aT.body mg kd (rs.map (·.x)))=S):=⟨_,uQ rfl⟩;have Eb:=uQ (show S<Xx.W by rw [<-HS.o];exact Xx.sum_lt _);rw [HS.o]at hxs;refine hxs.mono ?_;rintro ee w6 ⟨v,rfl,rfl,h6⟩;clear h5 hxs;go_wp2_with fail;refine (ak0 S Eb.o h6).mono ?_;rintro ee w7 ⟨v,rfl,h7,_⟩;clear h6;go_wp2_with (with_reducible apply Wp)
     refine ⟨Ut (m:=aj.le S 8) (h7.pick bf) ah ah (Sat.rd h7) (λe=>by have k:=aey List.length e;rw [aj.jk]at k;cases k) (by rw [aj.jk];have:=oz.o;omega) ?_⟩;intro v8 w8 h8;have h9:Sat w0 w8 (jB v8 (aT.book Xx.sum mg kd (rs.map (·.x)))::F):=by unfold aT.book;rw [HS.o];exact h8.sb
     clear h7 h8;go_wp2_with fail
     go_ret2
     exact ⟨_,rfl,v8,rfl,h9⟩
section
variable {w':World}{pos:String}{xs:Array (Nat×Operand)}
theorem afl (h:Stop (wpList P ops Q (⟨dst,.buildSlice ty n xs,t,pos,after,none⟩::rest) a w)):wpList P ops Q (⟨dst,.buildSlice ty n xs,t,pos,after,none⟩::rest) a w:=h.o
theorem aoo (parts':Array (Nat×Value)) (he:xs.map (λp=>(p.1,a.eval p.2))=parts') (hr:(Instr.buildSlice ty n parts').run P w=.ok v w') (h:wpList P ops Q rest (a.put dst v) w'):wpList P ops Q (⟨dst,.buildSlice ty n xs,t,pos,after,none⟩::rest) a w:=
 aeV rfl λ_ hK=>by
  unfold Oper.wp execOp;simp only [he,ad1,hr,adu,aek];exact hK _ _ h
end
theorem aoc (a b c:Int) (h:Sat w0 w F):Calls prog 138 #[.agg #[.int .i64 a,.int .i64 b,.int .i64 c]] w
  (aP λv w'=>∃ q,v=.agg (dA ⟨⟨aj.zero32,[a,b,c]⟩,.slice (some ⟨q,0,none⟩) 3 3⟩).toArray/\Sat w0 w' (pt q (.cells #[.int .i64 a,.int .i64 b,.int .i64 c] 3 (0,0))::F)):=by
 have hbs:∀ w,(Instr.buildSlice 29 3 #[(0,.int .i64 a),(1,.int .i64 b),(2,.int .i64 c)]).run prog w=.ok (.slice (some ⟨w.heap.size,0,none⟩) 3 3) (w.alloc (.cells #[.int .i64 a,.int .i64 b,.int .i64 c] 3)):=λw=>by kernel_rfl
 have hrow:∀ w q,(Instr.build 221 #[(1,.slice (some ⟨q,0,none⟩) 3 3)]).run prog w=.ok (.agg (dA ⟨⟨aj.zero32,[a,b,c]⟩,.slice (some ⟨q,0,none⟩) 3 3⟩).toArray) w:=λw q=>by kernel_rfl
 go_enter func138,ntmps138;go_wp2_with (with_reducible apply fD);refine ⟨fE h ah ah ?_⟩;intro b1 w1 h1;go_wp2_with (with_reducible apply fB);refine ⟨eF zq h1 rfl ?_⟩;intro b2 w2 h2;have hS:=h2.alloc (.cells #[.int .i64 a,.int .i64 b,.int .i64 c] 3);generalize hq:w2.heap.size=q at *
 have hq2:=hq
 go_wp2_with (first
  |((with_reducible refine bP ⟨?_⟩);refine fZ h2 ah bf bI ak au ?_)
  |((with_reducible refine dh ⟨?_⟩);refine fP (dA ⟨⟨aj.zero32,[a,b,c]⟩,.slice (some ⟨q,0,none⟩) 3 3⟩).toArray hS ah ah ah TV au ah ?_;intro w9 h9))
 refine ⟨rfl,_,yU rfl h9 ah bJ underlying221 rfl au,?_⟩;exact ⟨_,rfl,q,rfl,h9.sb⟩
theorem akK:sN prog 221=some [(0,32),(32,1)]:=by kernel_rfl
theorem amu (k:aj.Bs) (hk:k.length=32) (x:aT.Rw) (hx:x.key=k) (nv:Value) (q:Nat) (vk:nv=.slice (some ⟨q,0,none⟩) 3 3) (w:World):(Instr.build 221 #[(0,.agg (aA k).toArray),(1,nv)]).run prog w=.ok (.agg (dA ⟨x,nv⟩).toArray) w:=by
 subst vk;subst hx
 have h:=apP (P:=prog) [(0,.agg (aA x.key).toArray),(1,.slice (some ⟨q,0,none⟩) 3 3)] akK zq (by
  intro p hp;have hzz:(Value.agg (dA vT).toArray).cells.size=33:=by rfl
  rw [hzz];rcases ad5.1 hp with rfl|hp
  ·refine ⟨0,?_,?_⟩
   ·show some (0,32)=some (0,(aA x.key).toArray.size);rw [abn,aX,hk]
   ·show 0+(aA x.key).toArray.size<=33;rw [abn,aX,hk];decide
  ·rw [adZ.1 hp];exact ⟨32,rfl,by show 32+1<=33;omega⟩) w
 refine h.trans ?_;have hz:aj.zero32.length=32:=rfl;have hzl:(dA vT).length=33:=lQ _ hz;have e:eU (eU (dA vT).toArray 0 (aA x.key)) 32 [.slice (some ⟨q,0,none⟩) 3 3]=(dA ⟨x,.slice (some ⟨q,0,none⟩) 3 3⟩).toArray:=by
  apply ql;rw [xk _ _ _ (by rw [kW,abn,hzl];exact abl 33),xk _ _ _ (by rw [abn,hzl,aX,hk];decide),ad6];have e1:kS (dA vT) 0 (aA x.key)=aA x.key++[.slice none 0 0]:=by
   unfold dA vT;rw [Dn _ _ _ _ (by rw [aX,aX,hk,hz];decide),yQ (by rw [aX,aX,hk,hz])]
  have h0:=yR (aA x.key) [.slice none 0 0] [.slice (some ⟨q,0,none⟩) 3 3] 0;rw [aX,hk,yQ (xs:=[Value.slice none 0 0]) (vs:=[Value.slice (some ⟨q,0,none⟩) 3 3]) ah]at h0;rw [e1];exact h0
 exact aey (λx=>Result.ok (Value.agg x) w) e
theorem aiN (k:aj.Bs) (hk:k.length=32) (a b c:Int) (h:Sat w0 w F):Calls prog 134 #[.agg (aA k++[Value.int .i64 a,Value.int .i64 b,Value.int .i64 c]).toArray] w
  (aP λv w'=>∃ q,v=.agg (dA ⟨⟨k,[a,b,c]⟩,.slice (some ⟨q,0,none⟩) 3 3⟩).toArray/\Sat w0 w' (pt q (.cells #[.int .i64 a,.int .i64 b,.int .i64 c] 3 (0,0))::F)):=by
 have hbs:∀ w,(Instr.buildSlice 29 3 #[(0,.int .i64 a),(1,.int .i64 b),(2,.int .i64 c)]).run prog w=.ok (.slice (some ⟨w.heap.size,0,none⟩) 3 3) (w.alloc (.cells #[.int .i64 a,.int .i64 b,.int .i64 c] 3)):=λw=>by kernel_rfl
 have hrow:∀ w q,(Instr.build 221 #[(0,.agg (aA k).toArray),(1,.slice (some ⟨q,0,none⟩) 3 3)]).run prog w=.ok (.agg (dA ⟨⟨k,[a,b,c]⟩,.slice (some ⟨q,0,none⟩) 3 3⟩).toArray) w:=λw q=>amu k hk ⟨k,[a,b,c]⟩ rfl _ q rfl w;have hsz:(aA k++[Value.int .i64 a,Value.int .i64 b,Value.int .i64 c]).toArray.size=35:=by rw [abn,aaL,aX,hk];rfl
 have hat:∀ j v,([Value.int .i64 a,Value.int .i64 b,Value.int .i64 c]:List Value)[j]?=some v->(aA k++[Value.int .i64 a,Value.int .i64 b,Value.int .i64 c]).toArray.getD (32+j) undef=v:=λj v hj=>by
  rw [ajS,ace,aeh (by rw [aX,hk];omega),aX,hk,apG,hj];rfl
 have hki:(prog.info? 50).map (·.size)=some (aA k).length:=by rw [aX,hk];kernel_rfl
 go_enter func134,ntmps134;go_wp2_with (with_reducible apply fD);refine ⟨fE h ah ah ?_⟩;intro b1 w1 h1;go_wp2_with (with_reducible apply fB);refine ⟨eF zq h1 rfl ?_⟩;intro b2 w2 h2;replace h2:Sat w0 w2 (pt b2 (.cells (dA vT).toArray 221 (0,0))::pt b1 (.cells (aA k++[Value.int .i64 a,Value.int .i64 b,Value.int .i64 c]).toArray 219 (0,0))::F):=h2;have hS:=h2.alloc (.cells #[.int .i64 a,.int .i64 b,.int .i64 c] 3);have hrs:∀ q,(dA ⟨⟨k,[a,b,c]⟩,.slice (some ⟨q,0,none⟩) 3 3⟩).toArray.size=33:=λq=>kX _ hk
 go_wp2_with (first
  |((with_reducible refine bP ⟨?_⟩);first
   |refine DY (o:=0) (aA k) h2 ah bf (λj v hj=>by rw [ad8,ace,aej (abm.1 hj).1];exact hj) underlying50 rfl hki ?_
   |refine fZ (o:=32) h2 ah bf (by show 33<=(aA k++_).toArray.size;rw [hsz];decide) (hat 0 _ rfl) au ?_
   |refine fZ (o:=33) h2 ah bf (by show 34<=(aA k++_).toArray.size;rw [hsz];decide) (hat 1 _ rfl) au ?_
   |refine fZ (o:=34) h2 ah bf (by show 35<=(aA k++_).toArray.size;rw [hsz];decide) (hat 2 _ rfl) au ?_)
  |(with_reducible apply afl))
 refine ⟨aoo #[(0,.int .i64 a),(1,.int .i64 b),(2,.int .i64 c)] (by simp only [aeX,ad7,aeF];rfl) (hbs _) ?_⟩;generalize hq:w2.heap.size=q at *
 go_wp2_with (with_reducible apply afn);refine ⟨aop #[(0,.agg (aA k).toArray),(1,.slice (some ⟨q,0,none⟩) 3 3)] (by simp only [aeX,ad7,aeF];rfl) (λw=>hrow w q) ?_⟩;go_wp2_with (with_reducible apply dh);refine ⟨fP (dA ⟨⟨k,[a,b,c]⟩,.slice (some ⟨q,0,none⟩) 3 3⟩).toArray hS ah ah (by rw [hrs q];rfl) TV (by rw [hrs q];kernel_rfl) (by unfold dA;rw [ad6,aiJ,tH];rfl) ?_⟩;intro w9 h9;go_wp2_with fail;refine ⟨rfl,_,yU rfl h9 ah bJ underlying221 rfl (by rw [hrs q];kernel_rfl),?_⟩;exact ⟨_,rfl,_,rfl,h9.sb⟩
end Go.Proofs.Y
namespace Go.Rep
def jl (u:Use):aT.Rw:=⟨aj.zero32,[u.seg,u.size,u.live]⟩
def ji (p:aj.Bs×Seg.aV):aT.Rw:=⟨p.1,[p.2.seg,p.2.at_,p.2.size]⟩
end Go.Rep
namespace Go.Proofs.Y
open Go.ay
def jg (rs:List RV):aG:=stars (rs.map λr=>aC 3 1 r.nv (ints r.x.nums))
section
variable {rs:List RV}{r:RV}
theorem ako (rs:List RV) (r:RV):jg (rs++[r])=star (aC 3 1 r.nv (ints r.x.nums)) (jg rs):=by
 unfold jg;rw [adU,qO,ad7,aeF,DL,DK]
theorem Ky (h:Sat w0 w (aC 3 1 r.nv (ints r.x.nums)::jg rs::F)):Sat w0 w (jg (rs++[r])::F):=by
 rw [ako];exact Sat.star.2 h
theorem Dc (hr:r∈rs) (hk:r.x.key.length=32) (hn:0<r.x.nums.length):su w0 (jg rs::F) r:=by
 refine ⟨hk,λw hw=>?_,hn⟩;obtain ⟨G,hG⟩:=Ls (rs.map λr=>aC 3 1 r.nv (ints r.x.nums)) _ (apt hr);have h1:Sat w0 w (star (aC 3 1 r.nv (ints r.x.nums)) G::F):=by rw [<-hG];exact hw
 exact Sat.rd (Sat.star.1 h1)
theorem aaY {q:Nat}{a b c:Int} (h:Sat w0 w (pt q (.cells #[.int .i64 a,.int .i64 b,.int .i64 c] 3 (0,0))::F)):Sat w0 w (aC 3 1 (.slice (some ⟨q,0,none⟩) 3 3) (ints [a,b,c])::F):=
 Sat.lN h rfl (abl _) (abl _) aN rfl
theorem Dy {k:aj.Bs}{ns:List Int}{a:Option Addr}{n c:Nat}:(dA ⟨⟨k,ns⟩,.slice a n c⟩).toArray.toList.all (·.oneCell')=true:=by
 rw [ad6];unfold dA;rw [aiJ,tH];rfl
theorem akS (us:List Rep.Use) (hl:us.length<=65536) (hr:Ro w0 F (bF 3 lv (us.flatMap bG))) (h:Sat w0 w F) :
  Calls prog 137 #[lv,.func (.func 138) #[] #[]] w (aP λv w'=>∃ rs:List RV,rs.map (·.x)=us.map Rep.jl/\Sat w0 w' (aC 221 33 v (rs.flatMap dA)::jg rs::F)):=by
 obtain ⟨la,lc,rfl⟩:=jK (λu _=>vP u) (hr w h) aN;have Hr:=uQ hr;have Hl:=uQ hl;clear hr hl;go_enter func137,ntmps137;go_wp2_with fail
 go_loopg [5,10] us.length (λg ov iq wr=>∃ (i:Nat) (rs:List RV) (o2:Value),g=us.length-i/\i<=us.length/\o2=ov/\iq=.int .i64 i/\(rs.map (·.x)=(us.take i).map Rep.jl/\∀ r∈rs,r.x.key.length=32)/\Sat w0 wr (aC 221 33 o2 (rs.flatMap dA)::jg rs::F))
 case atStart=>exact ⟨0,[],_,rfl,aea _,rfl,rfl,⟨rfl,λr hr=>by cases hr⟩,Sat.gB.2 (Sat.emp.2 h)⟩
 case round=>
  obtain ⟨i,rs,ov,rfl,hi,rfl,rfl,hrs,hS⟩:=hrel;clear h;by_cases hlt:i<us.length
  ·as_aux_lemma=>
    have c3:(i:Int)<(us.length:Int):=oQ;have hwi:IntKind.i64.wrap ((i:Int)+1)=(i:Int)+1:=adr _ yN0;obtain ⟨u,hx⟩:∃ u,us[i]?=some u:=⟨_,aay hlt⟩;obtain ⟨bk,off,c',hsv,hcell⟩:=jd (f:=bG) (k:=3) (λu _=>vP u) (Hr.o _ hS.drop.drop) hx aN;cases hsv;have bT:=uQ hlt;have sZ:=uQ hrs;have eG:=uQ (show us.take (i+1)=us.take i++[u] from aT.kY hx)
    have iV:=uQ (show (rs.flatMap dA).length<=2147483648 from by
     rw [jy λr hr=>lQ r (hrs.2 r hr)];have:=aey List.length hrs.1;rw [aa4,aa4,ads]at this;have:=Hl.o;omega)
    clear hx hlt hi hrs
    go_wp2_with (first
     |((with_reducible refine bP ⟨?_⟩);refine iR (b:=bk) (o:=off+i*3) (bG u) ah hcell underlying45 rfl au ?_)
     |(with_reducible apply fB))
    refine ⟨eF MK hS rfl ?_⟩;intro b8 w8 h8;clear hS hcell;go_wp2_with (with_reducible apply dh);refine ⟨fP (bG u).toArray h8 ah ah ah cZ au ah ?_⟩;intro w9 h9;clear h8;go_wp2_with ((with_reducible refine bP ⟨?_⟩);refine iQ h9 ah aU underlying45 rfl au ?_);refine (aoc u.seg u.size u.live h9).mono ?_;rintro ee w10 ⟨v,rfl,q,rfl,h10⟩;clear h9;have h11:=aaY h10;clear h10
    go_wp2_with (first
     |((with_reducible refine nR ⟨?_⟩);refine nN (e:=221) (sz:=33) (eX:=56) (cs:=(dA ⟨Rep.jl u,.slice (some ⟨q,0,none⟩) 3 3⟩).toArray) au h11 ah rfl (kX ⟨Rep.jl u,.slice (some ⟨q,0,none⟩) 3 3⟩ rfl) bI ?_;intro bN wN hN)
     |(with_reducible apply lH))
    refine ⟨oh (cs:=(dA ⟨Rep.jl u,.slice (some ⟨q,0,none⟩) 3 3⟩).toArray) 221 33 56 au hN ah ah (aS (aS (aS aU))) aU (kX ⟨Rep.jl u,.slice (some ⟨q,0,none⟩) 3 3⟩ rfl) bI Dy iV.o (by rw [kX ⟨Rep.jl u,.slice (some ⟨q,0,none⟩) 3 3⟩ rfl];decide) bI rfl ?_⟩;intro b' n' c2 kT iM;go_wp2_with fail
    go_roundg (us.length-(i+1))
    case measure=>have:=bT.o;omega
    case rel=>
     refine ⟨i+1,rs++[⟨Rep.jl u,.slice (some ⟨q,0,none⟩) 3 3⟩],_,rfl,aec bT.o,rfl,by first|rfl|go_num,⟨?_,?_⟩,?_⟩
     ·rw [adU,eG.o,adU,sZ.o.1];rfl
     ·intro r hr;rcases aeg.1 hr with hr|hr
      ·exact sZ.o.2 r hr
      ·rw [adZ.1 hr];exact rfl
     ·rw [aeB,ael,ajb,adV];have h15:Sat w0 kT (aC 3 1 (.slice (some ⟨q,0,none⟩) 3 3) (ints (Rep.jl u).nums)::jg rs::aC 221 33 (.slice (some ⟨b',0,none⟩) n' c2) (rs.flatMap dA++dA ⟨Rep.jl u,.slice (some ⟨q,0,none⟩) 3 3⟩)::F):=iM.sb;exact (Ky (r:=⟨Rep.jl u,.slice (some ⟨q,0,none⟩) 3 3⟩) h15).sb
  ·have c3:¬ (i:Int)<(us.length:Int):=by omega
   have hi2:i=us.length:=oQ;subst hi2;rw [aeo]at hrs;clear hi hlt;go_wp2_with fail;go_ret;exact ⟨_,rfl,rs,hrs.1,hS⟩
theorem akR (us:List (aj.Bs×Seg.aV)) (hl:us.length<=65536) (hk:∀ q∈us,q.1.length=32) (hr:Ro w0 F (bF 35 lv (us.flatMap gW))) (h:Sat w0 w F) :
  Calls prog 133 #[lv,.func (.func 134) #[] #[]] w (aP λv w'=>∃ rs:List RV,rs.map (·.x)=us.map Rep.ji/\Sat w0 w' (aC 221 33 v (rs.flatMap dA)::jg rs::F)):=by
 have Hk:=uQ hk;clear hk;obtain ⟨la,lc,rfl⟩:=jK (λu hu=>lJ u (Hk.o u hu)) (hr w h) aN;have Hr:=uQ hr;have Hl:=uQ hl;clear hr hl;go_enter func133,ntmps133;go_wp2_with fail
 go_loopg [5,10] us.length (λg ov iq wr=>∃ (i:Nat) (rs:List RV) (o2:Value),g=us.length-i/\i<=us.length/\o2=ov/\iq=.int .i64 i/\(rs.map (·.x)=(us.take i).map Rep.ji/\∀ r∈rs,r.x.key.length=32)/\Sat w0 wr (aC 221 33 o2 (rs.flatMap dA)::jg rs::F))
 case atStart=>exact ⟨0,[],_,rfl,aea _,rfl,rfl,⟨rfl,λr hr=>by cases hr⟩,Sat.gB.2 (Sat.emp.2 h)⟩
 case round=>
  obtain ⟨i,rs,ov,rfl,hi,rfl,rfl,hrs,hS⟩:=hrel;clear h;by_cases hlt:i<us.length
  ·as_aux_lemma=>
    have c3:(i:Int)<(us.length:Int):=oQ;have hwi:IntKind.i64.wrap ((i:Int)+1)=(i:Int)+1:=adr _ yN0;obtain ⟨u,hx⟩:∃ u,us[i]?=some u:=⟨_,aay hlt⟩;obtain ⟨bk,off,c',hsv,hcell⟩:=jd (f:=gW) (k:=35) (λu hu=>lJ u (Hk.o u hu)) (Hr.o _ hS.drop.drop) hx aN;cases hsv;have bT:=uQ hlt;have sZ:=uQ hrs;have eG:=uQ (show us.take (i+1)=us.take i++[u] from aT.kY hx)
    have iV:=uQ (show (rs.flatMap dA).length<=2147483648 from by
     rw [jy λr hr=>lQ r (hrs.2 r hr)];have:=aey List.length hrs.1;rw [aa4,aa4,ads]at this;have:=Hl.o;omega)
    have qA:=uQ (Hk.o u (abA hx));clear hx hlt hi hrs
    go_wp2_with (first
     |((with_reducible refine bP ⟨?_⟩);refine iR (b:=bk) (o:=off+i*35) (gW u) ah hcell underlying219 rfl (by rw [lJ _ qA.o];kernel_rfl) ?_)
     |(with_reducible apply fB))
    refine ⟨eF MH hS rfl ?_⟩;intro b8 w8 h8;clear hS hcell;go_wp2_with (with_reducible apply dh);refine ⟨fP (gW u).toArray h8 ah ah (by rw [abn,lJ _ qA.o];rfl) cZ (by rw [abn,lJ _ qA.o];kernel_rfl) (by rw [ad6];exact FK u) ?_⟩;intro w9 h9;clear h8;go_wp2_with ((with_reducible refine bP ⟨?_⟩);refine iQ h9 ah aU underlying219 rfl (by rw [abn,lJ _ qA.o];kernel_rfl) ?_);refine (aiN u.1 qA.o u.2.seg u.2.at_ u.2.size h9).mono ?_;rintro ee w10 ⟨v,rfl,q,rfl,h10⟩;clear h9;have h11:=aaY h10;clear h10
    go_wp2_with (first
     |((with_reducible refine nR ⟨?_⟩);refine nN (e:=221) (sz:=33) (eX:=56) (cs:=(dA ⟨Rep.ji u,.slice (some ⟨q,0,none⟩) 3 3⟩).toArray) au h11 ah rfl (kX ⟨Rep.ji u,.slice (some ⟨q,0,none⟩) 3 3⟩ qA.o) bI ?_;intro bN wN hN)
     |(with_reducible apply lH))
    refine ⟨oh (cs:=(dA ⟨Rep.ji u,.slice (some ⟨q,0,none⟩) 3 3⟩).toArray) 221 33 56 au hN ah ah (aS (aS (aS aU))) aU (kX ⟨Rep.ji u,.slice (some ⟨q,0,none⟩) 3 3⟩ qA.o) bI Dy iV.o (by rw [kX ⟨Rep.ji u,.slice (some ⟨q,0,none⟩) 3 3⟩ qA.o];decide) bI rfl ?_⟩;intro b' n' c2 kT iM;go_wp2_with fail
    go_roundg (us.length-(i+1))
    case measure=>have:=bT.o;omega
    case rel=>
     refine ⟨i+1,rs++[⟨Rep.ji u,.slice (some ⟨q,0,none⟩) 3 3⟩],_,rfl,aec bT.o,rfl,by first|rfl|go_num,⟨?_,?_⟩,?_⟩
     ·rw [adU,eG.o,adU,sZ.o.1];rfl
     ·intro r hr;rcases aeg.1 hr with hr|hr
      ·exact sZ.o.2 r hr
      ·rw [adZ.1 hr];exact qA.o
     ·rw [aeB,ael,ajb,adV];have h15:Sat w0 kT (aC 3 1 (.slice (some ⟨q,0,none⟩) 3 3) (ints (Rep.ji u).nums)::jg rs::aC 221 33 (.slice (some ⟨b',0,none⟩) n' c2) (rs.flatMap dA++dA ⟨Rep.ji u,.slice (some ⟨q,0,none⟩) 3 3⟩)::F):=iM.sb;exact (Ky (r:=⟨Rep.ji u,.slice (some ⟨q,0,none⟩) 3 3⟩) h15).sb
  ·have c3:¬ (i:Int)<(us.length:Int):=by omega
   have hi2:i=us.length:=oQ;subst hi2;rw [aeo]at hrs;clear hi hlt;go_wp2_with fail;go_ret;exact ⟨_,rfl,rs,hrs.1,hS⟩
end
section
variable {pos:String}
theorem afq (h:Stop (wpList P ops Q (⟨dst,.sliceToArrayPointer ty x,t,pos,after,none⟩::rest) a w)):wpList P ops Q (⟨dst,.sliceToArrayPointer ty x,t,pos,after,none⟩::rest) a w:=h.o
theorem aos (hx:a.eval x=v) (hr:∀ w,(Instr.arrayAt ty v).run P w=.ok vy w) (h:wpList P ops Q rest (a.put dst vy) w):wpList P ops Q (⟨dst,.sliceToArrayPointer ty x,t,pos,after,none⟩::rest) a w:=
 aeV rfl λ_ hK=>by
  unfold Oper.wp execOp;simp only [hx,ad1,hr,adu,aek];exact hK _ _ h
theorem Wq (h:Stop (wpList P ops Q (⟨dst,.build ty #[],t,pos,after,none⟩::rest) a w)):wpList P ops Q (⟨dst,.build ty #[],t,pos,after,none⟩::rest) a w:=h.o
end
theorem acA (w:World):(Instr.build 221 #[]).run prog w=.ok (.agg (dA vT).toArray) w:=by kernel_rfl
theorem ak3 (k:aj.Bs) (hk:k.length=32) (nv:Value):eU (dA ⟨⟨aj.zero32,[]⟩,nv⟩).toArray 0 (aA k)=(dA ⟨⟨k,[]⟩,nv⟩).toArray:=by
 have hz:aj.zero32.length=32:=rfl;apply ql;rw [xk _ _ _ (by rw [abn,lQ _ hz,aX,hk];decide),ad6];unfold dA;rw [Dn _ _ _ _ (by rw [aX,aX,hk,hz];decide),yQ (by rw [aX,aX,hk,hz])]
theorem abv (k:aj.Bs) (hk:k.length=32) (ns ms:List Int) (nv mv:Value):eU (dA ⟨⟨k,ns⟩,nv⟩).toArray 32 [mv]=(dA ⟨⟨k,ms⟩,mv⟩).toArray:=by
 apply ql;rw [xk _ _ _ (by rw [abn,lQ _ hk];exact abl 33),ad6];have h0:=yR (aA k) [nv] [mv] 0;rw [aX,hk,yQ (xs:=[nv]) (vs:=[mv]) ah]at h0;exact h0
abbrev qm (b:Nat) (k:aj.Bs) (ns:List Int) (nv:Value):aG:=pt b (.cells (dA ⟨⟨k,ns⟩,nv⟩).toArray 221 (0,0))
abbrev kF (b:Nat) (mg:ByteArray) (kd:Bool) (k:Nat):aG:=pt b (.cells (mZ mg kd k) 213 (0,0))
theorem ajg (fG:ByteArray) (k:Nat) (hk:k<=3) (rs:List aT.Rw) (hok:∀ r∈rs,aT.xQ k r) (hn:rs.length<=65536) (hz:∀ r∈rs,r.key=aj.zero32) (T:aj.Bs) (hr:RS w0 F rv (aT.jP false rs++T)) (h:Sat w0 w (je p rv::F)) :
  Calls prog 218 #[.agg (mZ fG false k),ptr p,.int .i64 rs.length] w (aP λv w'=>∃ (vs:List RV) (rv':Value),vs.map (·.x)=rs/\RS w0 F rv' T/\Sat w0 w' (aC 221 33 v (vs.flatMap dA)::jg vs::je p rv'::F)):=by
 have Hr:=uQ hr;have dB:=uQ hok;have Hn:=uQ hn;have Hk:=uQ hk;have Hz:=uQ hz;clear hr hok hn hk hz;go_enter func218,ntmps218;go_wp2_with (with_reducible apply fD);refine ⟨fE h ah ah ?_⟩;intro b3 w3 h3;replace h3:Sat w0 w3 (je p rv::kF b3 fG false k::F):=h3.sb;clear h;go_wp2_with fail
 go_loopg [7,10] rs.length (λg oq iq wr=>∃ (i:Nat) (vs:List RV) (ov rJ:Value),g=rs.length-i/\i<=rs.length/\ov=oq/\iq=.int .i64 i/\RS w0 F rJ (aT.jP false (rs.drop i)++T)/\(vs.map (·.x)=rs.take i/\∀ x∈vs,x.x.key.length=32) /\
  Sat w0 wr (aC 221 33 ov (vs.flatMap dA)::jg vs::je p rJ::kF b3 fG false k::F))
 case atStart=>exact ⟨0,[],_,rv,rfl,aea _,rfl,rfl,Hr.o,⟨rfl,λr hr=>by cases hr⟩,Sat.gB.2 (Sat.emp.2 h3)⟩
 case round=>
  obtain ⟨i,vs,ov,vN,rfl,hi,rfl,rfl,hRS,hvs,hS⟩:=hrel;clear h3;by_cases hlt:i<rs.length
  ·as_aux_lemma=>
    have c3:(i:Int)<(rs.length:Int):=oQ;have hwi:IntKind.i64.wrap ((i:Int)+1)=(i:Int)+1:=adr _ yH0;obtain ⟨r,hx⟩:∃ r,rs[i]?=some r:=⟨_,aay hlt⟩;have lg:=uQ (dB.o r (abA hx));have Hkz:=uQ (Hz.o r (abA hx));have eG:=uQ (aT.kY hx);have bT:=uQ hlt;have lW:=uQ hvs
    have PW:=uQ (show (vs.flatMap dA).length<=2147483648 from by
     rw [jy λr hr=>lQ r (hvs.2 r hr)];have:=aey List.length hvs.1;rw [aa4,ads]at this;have:=Hn.o;omega)
    rw [aT.ab3 hx,adQ]at hRS;obtain ⟨Y,hY⟩:∃ Y,aT.jP false (rs.drop (i+1))++T=Y:=⟨_,rfl⟩;rw [hY]at hRS;have HY:=uQ hY;clear hY;have kN:=uQ (show RS w0 F vN (aT.jv r.nums++Y) from by unfold aT.rowB at hRS;exact hRS);clear hx hlt hi hvs hRS
    go_wp2_with (first
     |((with_reducible refine Wq ⟨?_⟩);refine vS ah acA ?_)
     |(with_reducible apply fB))
    refine ⟨eF zq hS rfl ?_⟩;intro b8 w8 h8;clear hS;go_wp2_with (with_reducible apply dh);refine ⟨fP (dA vT).toArray h8 ah ah ah cZ au ah ?_⟩;intro w9 h9;clear h8;have HR:=kN;have h10:Sat w0 w9 (qm b8 r.key (r.nums.take 0) (.slice none 0 0)::aC 3 1 (.slice none 0 0) (ints (r.nums.take 0))::je p vN::kF b3 fG false k::aC 221 33 ov (vs.flatMap dA)::jg vs::F):=by
     rw [aeO,Hkz.o];exact (Sat.gB.2 h9).sb
    clear h9;have h9:=h10;clear h10;generalize vN=rJ at *
    go_wp2_with ((with_reducible refine bP ⟨?_⟩);refine fZ h9 ah (aS (aS (aS aU))) bI ak au ?_);go_wp2_with ((with_reducible refine bP ⟨?_⟩);refine fZ h9 ah (aS (aS (aS aU))) bI ak au ?_)
    go_loopg [22] k (λg iq wr=>∃ (j:Nat) (nv mD:Value),g=k-j/\j<=k/\iq=.int .i64 j/\RS w0 F mD (aT.jv (r.nums.drop j)++Y)/\Sat w0 wr (qm b8 r.key (r.nums.take j) nv::aC 3 1 nv (ints (r.nums.take j))::je p mD::kF b3 fG false k::aC 221 33 ov (vs.flatMap dA)::jg vs::F))
    case atStart=>exact ⟨0,_,rJ,rfl,aea _,rfl,HR.o,h9⟩
    case round=>
     obtain ⟨j,nv,mD,rfl,hj,rfl,hRS,hSj⟩:=hrel;clear h9;by_cases hjl:j<k
     ·as_aux_lemma=>
      have c4:(j:Int)<(k:Int):=oQ;have CP:IntKind.i64.wrap ((j:Int)+1)=(j:Int)+1:=adr _ (by have:=Hk.o;omega);obtain ⟨n,hn⟩:∃ n,r.nums[j]?=some n:=⟨_,aay (by rw [lg.o.len];exact hjl)⟩;have hnb:=lg.o.num n (abA hn);obtain ⟨x,rfl⟩:∃ x:Nat,n=(x:Int):=⟨n.toNat,by omega⟩;have hdr:aT.jv (r.nums.drop j)=aj.le x 4++aT.jv (r.nums.drop (j+1)):=by
       have:=aT.aaZ hn
       rwa [apM]at this
      have eG:=uQ (aT.kY hn);rw [hdr,adQ]at hRS;have hnum:aj.num ((aj.le x 4++(aT.jv (r.nums.drop (j+1))++Y)).take 4)=x:=by
       rw [aT.TR];have:=aT.aaS hnb
       rwa [apM]at this
      have Fb:=aT.Jj x (aT.jv (r.nums.drop (j+1))++Y);have hw2:IntKind.i64.wrap (x:Int)=(x:Int):=adr _ oQ;have hrn:=uQ (λ(w':World) (R:List aG) (hr':RS w0 R mD (aj.le x 4++(aT.jv (r.nums.drop (j+1))++Y))) (hw:Sat w0 w' (je p mD::R))=>KO (by rw [aaL,aj.jk];omega) hr' hw);rw [hnum,Fb]at hrn;have kN:=uQ hRS;have kK:=uQ hjl;have hkey:=lg.o.key;have dS:=uQ hkey;have Hsm:=uQ (show (r.nums.take j).length<=2147483648 from by rw [ads];have:=Hk.o;omega);obtain ⟨na,nn,nc,rfl,hnl,_⟩:=Sat.rd (hSj.pick bf);clear hn hnb hjl hj hdr hnum Fb hkey hnl hRS;go_wp2_with fail;have h10:=hSj.drew;clear hSj;refine dN [6,7,8] (λw'=>w'.cell? ⟨b8,32,none⟩=some (.slice na nn nc)) au ?_
      have HG:=uQ (λ(w':World) (R:List aG) (hw:Sat w0 w' (qm b8 r.key (r.nums.take j) (.slice na nn nc)::R))=>show w'.cell? ⟨b8,32,none⟩=some (.slice na nn nc) from hw.cellP aU 32 (AX (x:=⟨r.key,r.nums.take j⟩) dS.o));have hG:=HG.o _ _ h10;refine rP 0 ?_ (y:=bY);refine rt 1 (h:=?_);clear hG;refine rP 2 ?_ (y:=aZ);refine bW 3 ak au (λK hK=>?_)
      (refine iC au ak ak ?_)
      refine (hrn.o _ _ (kN.o.more kL) (h10.sb:Sat w0 _ (je p mD::qm b8 r.key (r.nums.take j) (.slice na nn nc)::aC 3 1 (.slice na nn nc) (ints (r.nums.take j))::kF b3 fG false k::aC 221 33 ov (vs.flatMap dA)::jg vs::F))).mono ?_;rintro ee iH ⟨v,rfl,rv3,rfl,tX,h11⟩;refine hK _ _ (.inr (.inl (HG.o _ _ (h11.sb)))) ?_;have MQ:=uQ (tX _ kN.o);clear hK h10 hrn tX kN;refine rP 4 ?_ (y:=(UJ ak dw));refine bW 5 ak au (λK hK=>?_);refine OV (e:=3) (sz:=1) (eX:=8) au h11 ak (cs:=#[.int .i64 (x:Int)]) rfl rfl aN ?_;intro bN w12 h12;refine hK _ _ (.inr (.inl (HG.o _ _ (h12.sb)))) ?_;clear hK h11;refine bW 6 ak au (λK hK=>?_);refine OU 3 1 8 au h12 ak ak (by first|exact aS (aS (aS aU))) aU rfl (abl 1) rfl (by unfold ints;rw [aa4];exact Hsm.o) bI bI (ys:=ints [(x:Int)]) rfl ?_;intro b' n' c' jM h13;refine hK _ _ (.inl rfl) ?_;clear hK h12;refine rP 7 ?_ (y:=bY)
      refine bW 8 ak au (λK hK=>?_);refine kQ (cs':=(dA ⟨⟨r.key,r.nums.take (j+1)⟩,.slice (some ⟨b',0,none⟩) n' c'⟩).toArray) (h13.sb:Sat w0 jM (qm b8 r.key (r.nums.take j) (.slice na nn nc)::aC 3 1 (.slice (some ⟨b',0,none⟩) n' c') (ints (r.nums.take j)++ints [(x:Int)])::je p rv3::kF b3 fG false k::aC 221 33 ov (vs.flatMap dA)::jg vs::F)) ak ak (abv r.key dS.o _ _ _ _) cZ (by show 32+1<=_;rw [kX _ dS.o];decide) au ah ?_;intro kT iM;refine hK _ _ (.inl rfl) ?_;clear hK h13;refine dH au ?_;go_wp2_with fail
      go_roundg (k-(j+1))
      case measure=>have:=kK.o;omega
      case rel=>exact ⟨j+1,_,rv3,rfl,aec kK.o,by first|rfl|go_num,MQ.o,by rw [eG.o,show ints (r.nums.take j++[(x:Int)])=ints (r.nums.take j)++ints [(x:Int)] from adU ..];rw [<-eG.o];exact iM⟩
     ·as_aux_lemma=>
      have c4:¬ (j:Int)<(k:Int):=oQ;obtain rfl:j=k:=by omega
      have hln:=lg.o.len;have e1:r.nums.drop j=[]:=aew oQ;have e2:r.nums.take j=r.nums:=ad9 oQ;rw [e1]at hRS;rw [e2]at hSj;have kN:=uQ (show RS w0 F mD Y from hRS);have dS:=uQ lg.o.key;have iV:=uQ PW.o;obtain ⟨na,nn,nc,rfl,_,_⟩:=Sat.rd (hSj.pick bf);clear hj hjl hRS hln e1 e2
      go_wp2_with (first
       |((with_reducible refine bP ⟨?_⟩);refine iQ hSj ah aU underlying221 rfl (by rw [kX _ dS.o];kernel_rfl) ?_)
       |((with_reducible refine nR ⟨?_⟩);refine nN (e:=221) (sz:=33) (eX:=56) (cs:=(dA ⟨r,.slice na nn nc⟩).toArray) au hSj ah rfl (kX ⟨r,.slice na nn nc⟩ dS.o) bI ?_;intro bN wN hN)
       |(with_reducible apply lH))
      refine ⟨oh (cs:=(dA ⟨r,.slice na nn nc⟩).toArray) 221 33 56 au hN ah ah (aS (aS (aS (aS (aS aU))))) aU (kX ⟨r,.slice na nn nc⟩ dS.o) bI Dy iV.o (by rw [kX ⟨r,.slice na nn nc⟩ dS.o];decide) bI rfl ?_⟩;intro b' n' c2 kT iM;clear hSj hN;go_wp2_with fail
      go_roundg (rs.length-(i+1))
      case measure=>have:=bT.o;omega
      case rel=>
       refine ⟨i+1,vs++[⟨r,.slice na nn nc⟩],_,mD,rfl,aec bT.o,rfl,by first|rfl|go_num,by rw [HY.o];exact kN.o,⟨?_,?_⟩,?_⟩
       ·rw [adU,eG.o,lW.o.1];rfl
       ·intro x hx;rcases aeg.1 hx with hx|hx
        ·exact lW.o.2 x hx
        ·rw [adZ.1 hx];exact dS.o
       ·rw [aeB,ael,ajb,adV];have h15:Sat w0 kT (aC 3 1 (.slice na nn nc) (ints r.nums)::jg vs::aC 221 33 (.slice (some ⟨b',0,none⟩) n' c2) (vs.flatMap dA++dA ⟨r,.slice na nn nc⟩)::je p mD::kF b3 fG false j::F):=iM.sb;exact (Ky (r:=⟨r,.slice na nn nc⟩) h15).sb
  ·as_aux_lemma=>
   have c3:¬ (i:Int)<(rs.length:Int):=oQ;obtain rfl:i=rs.length:=by omega
   rw [apH]at hRS;rw [aeo]at hvs;have kN:=uQ (show RS w0 F vN T from hRS);have lW:=uQ hvs.1;clear hi hlt hRS hvs;go_wp2_with fail;go_ret;exact ⟨_,rfl,vs,lW.o,vN,kN.o,hS.sb⟩
theorem ajh (fG:ByteArray) (k:Nat) (hk:k<=3) (rs:List aT.Rw) (hok:∀ r∈rs,aT.xQ k r) (hn:rs.length<=65536) (T:aj.Bs) (hr:RS w0 F rv (aT.jP true rs++T)) (h:Sat w0 w (je p rv::F)) :
  Calls prog 218 #[.agg (mZ fG true k),ptr p,.int .i64 rs.length] w (aP λv w'=>∃ (vs:List RV) (rv':Value),vs.map (·.x)=rs/\RS w0 F rv' T/\Sat w0 w' (aC 221 33 v (vs.flatMap dA)::jg vs::je p rv'::F)):=by
 have Hr:=uQ hr;have dB:=uQ hok;have Hn:=uQ hn;have Hk:=uQ hk;clear hr hok hn hk;go_enter func218,ntmps218;go_wp2_with (with_reducible apply fD);refine ⟨fE h ah ah ?_⟩;intro b3 w3 h3;replace h3:Sat w0 w3 (je p rv::kF b3 fG true k::F):=h3.sb;clear h;go_wp2_with fail
 go_loopg [7,10] rs.length (λg oq iq wr=>∃ (i:Nat) (vs:List RV) (ov rJ:Value),g=rs.length-i/\i<=rs.length/\ov=oq/\iq=.int .i64 i/\RS w0 F rJ (aT.jP true (rs.drop i)++T)/\(vs.map (·.x)=rs.take i/\∀ x∈vs,x.x.key.length=32) /\
  Sat w0 wr (aC 221 33 ov (vs.flatMap dA)::jg vs::je p rJ::kF b3 fG true k::F))
 case atStart=>exact ⟨0,[],_,rv,rfl,aea _,rfl,rfl,Hr.o,⟨rfl,λr hr=>by cases hr⟩,Sat.gB.2 (Sat.emp.2 h3)⟩
 case round=>
  obtain ⟨i,vs,ov,vN,rfl,hi,rfl,rfl,hRS,hvs,hS⟩:=hrel;clear h3;by_cases hlt:i<rs.length
  ·as_aux_lemma=>
    have c3:(i:Int)<(rs.length:Int):=oQ;have hwi:IntKind.i64.wrap ((i:Int)+1)=(i:Int)+1:=adr _ yH0;obtain ⟨r,hx⟩:∃ r,rs[i]?=some r:=⟨_,aay hlt⟩;have lg:=uQ (dB.o r (abA hx));have eG:=uQ (aT.kY hx);have bT:=uQ hlt;have lW:=uQ hvs
    have PW:=uQ (show (vs.flatMap dA).length<=2147483648 from by
     rw [jy λr hr=>lQ r (hvs.2 r hr)];have:=aey List.length hvs.1;rw [aa4,ads]at this;have:=Hn.o;omega)
    rw [aT.ab3 hx,adQ]at hRS;obtain ⟨Y,hY⟩:∃ Y,aT.jP true (rs.drop (i+1))++T=Y:=⟨_,rfl⟩;rw [hY]at hRS;have HY:=uQ hY;clear hY;have kN:=uQ (show RS w0 F vN (r.key++(aT.jv r.nums++Y)) from by unfold aT.rowB at hRS;rw [acg rfl,adQ]at hRS;exact hRS);clear hx hlt hi hvs hRS
    go_wp2_with (first
     |((with_reducible refine Wq ⟨?_⟩);refine vS ah acA ?_)
     |(with_reducible apply fB))
    refine ⟨eF zq hS rfl ?_⟩;intro b8 w8 h8;clear hS;go_wp2_with (with_reducible apply dh);refine ⟨fP (dA vT).toArray h8 ah ah ah cZ au ah ?_⟩;intro w9 h9;clear h8;have hby:=alk (F:=qm b8 aj.zero32 [] (.slice none 0 0)::aC 221 33 ov (vs.flatMap dA)::jg vs::kF b3 fG true k::F) (by rw [aaL,lg.o.key];omega) (kN.o.more kL) (h9.sb:Sat w0 w9 (je p vN::qm b8 aj.zero32 [] (.slice none 0 0)::aC 221 33 ov (vs.flatMap dA)::jg vs::kF b3 fG true k::F));have hkt:(r.key++(aT.jv r.nums++Y)).take 32=r.key:=List.take_left' lg.o.key;have hkd:(r.key++(aT.jv r.nums++Y)).drop 32=aT.jv r.nums++Y:=List.drop_left' lg.o.key;rw [hkt,hkd]at hby;clear hkt hkd;go_wp2_with ((with_reducible refine bP ⟨?_⟩);refine fZ h9 ah (aS (aS (aS (aS aU)))) bI ak au ?_);refine hby.mono ?_;rintro ee w10 ⟨v,rfl,rJ,vw,_,h10⟩;have HR:=uQ (vw _ kN.o);have dS:=uQ lg.o.key;clear hby h9 vw kN
    obtain ⟨a1,n1,c1,rfl,hn1,hc1,hl1⟩:=BU h10;rw [dS.o]at hl1;subst hl1;obtain ⟨bk,off,rfl,hcell⟩:=pI (Sat.rd h10) (i:=0) (x9.2 ⟨r.key[0]'(by rw [dS.o];decide),aay _,rfl⟩);have hap:∀ w,(Instr.arrayAt 50 (.slice (some ⟨bk,off,none⟩) 32 c1)).run prog w=.ok (.pointer (some ⟨bk,off,none⟩)) w:=λw=>by
     unfold Instr.arrayAt;simp only [ad1,afM underlying50,adu]
     rfl
    go_wp2_with (first
     |((with_reducible refine afq ⟨?_⟩);refine aos ah hap ?_)
     |((with_reducible refine bP ⟨?_⟩);refine iR (b:=bk) (o:=off) (aA r.key) ah hcell underlying50 rfl (by rw [aX,dS.o];kernel_rfl) ?_)
     |(with_reducible apply dh))
    refine ⟨gq (cs':=(dA ⟨⟨r.key,[]⟩,.slice none 0 0⟩).toArray) (h10.sb:Sat w0 w10 (qm b8 aj.zero32 [] (.slice none 0 0)::je p rJ::kF b3 fG true k::aC 221 33 ov (vs.flatMap dA)::jg vs::F)) ah ah (ak3 r.key dS.o _) cZ (by show 0+(aA r.key).toArray.size<=_;rw [abn,aX,dS.o];decide) (by show _=some (aA r.key).toArray.size;rw [abn,aX,dS.o];kernel_rfl) (by show (aA r.key).toArray.toList.all _=true;rw [ad6,tH]) ?_⟩;intro iH h11;clear h10 hcell hap;have h9:Sat w0 iH (qm b8 r.key (r.nums.take 0) (.slice none 0 0)::aC 3 1 (.slice none 0 0) (ints (r.nums.take 0))::je p rJ::kF b3 fG true k::aC 221 33 ov (vs.flatMap dA)::jg vs::F):=by
     rw [aeO];exact (Sat.gB.2 h11).sb
    clear h11;go_wp2_with ((with_reducible refine bP ⟨?_⟩);refine fZ h9 ah (aS (aS (aS aU))) bI ak au ?_)
    go_loopg [22] k (λg iq wr=>∃ (j:Nat) (nv mD:Value),g=k-j/\j<=k/\iq=.int .i64 j/\RS w0 F mD (aT.jv (r.nums.drop j)++Y)/\Sat w0 wr (qm b8 r.key (r.nums.take j) nv::aC 3 1 nv (ints (r.nums.take j))::je p mD::kF b3 fG true k::aC 221 33 ov (vs.flatMap dA)::jg vs::F))
    case atStart=>exact ⟨0,_,rJ,rfl,aea _,rfl,HR.o,h9⟩
    case round=>
     obtain ⟨j,nv,mD,rfl,hj,rfl,hRS,hSj⟩:=hrel;clear h9;by_cases hjl:j<k
     ·as_aux_lemma=>
      have c4:(j:Int)<(k:Int):=oQ;have CP:IntKind.i64.wrap ((j:Int)+1)=(j:Int)+1:=adr _ (by have:=Hk.o;omega);obtain ⟨n,hn⟩:∃ n,r.nums[j]?=some n:=⟨_,aay (by rw [lg.o.len];exact hjl)⟩;have hnb:=lg.o.num n (abA hn);obtain ⟨x,rfl⟩:∃ x:Nat,n=(x:Int):=⟨n.toNat,by omega⟩;have hdr:aT.jv (r.nums.drop j)=aj.le x 4++aT.jv (r.nums.drop (j+1)):=by
       have:=aT.aaZ hn
       rwa [apM]at this
      have eG:=uQ (aT.kY hn);rw [hdr,adQ]at hRS;have hnum:aj.num ((aj.le x 4++(aT.jv (r.nums.drop (j+1))++Y)).take 4)=x:=by
       rw [aT.TR];have:=aT.aaS hnb
       rwa [apM]at this
      have Fb:=aT.Jj x (aT.jv (r.nums.drop (j+1))++Y);have hw2:IntKind.i64.wrap (x:Int)=(x:Int):=adr _ oQ;have hrn:=uQ (λ(w':World) (R:List aG) (hr':RS w0 R mD (aj.le x 4++(aT.jv (r.nums.drop (j+1))++Y))) (hw:Sat w0 w' (je p mD::R))=>KO (by rw [aaL,aj.jk];omega) hr' hw);rw [hnum,Fb]at hrn;have kN:=uQ hRS;have kK:=uQ hjl;have hkey:=lg.o.key;have dS:=uQ hkey;have Hsm:=uQ (show (r.nums.take j).length<=2147483648 from by rw [ads];have:=Hk.o;omega);obtain ⟨na,nn,nc,rfl,hnl,_⟩:=Sat.rd (hSj.pick bf);clear hn hnb hjl hj hdr hnum Fb hkey hnl hRS;go_wp2_with fail;have h10:=hSj.drew;clear hSj;refine dN [6,7,8] (λw'=>w'.cell? ⟨b8,32,none⟩=some (.slice na nn nc)) au ?_
      have HG:=uQ (λ(w':World) (R:List aG) (hw:Sat w0 w' (qm b8 r.key (r.nums.take j) (.slice na nn nc)::R))=>show w'.cell? ⟨b8,32,none⟩=some (.slice na nn nc) from hw.cellP aU 32 (AX (x:=⟨r.key,r.nums.take j⟩) dS.o));have hG:=HG.o _ _ h10;refine rP 0 ?_ (y:=bY);refine rt 1 (h:=?_);clear hG;refine rP 2 ?_ (y:=aZ);refine bW 3 ak au (λK hK=>?_)
      (refine iC au ak ak ?_)
      refine (hrn.o _ _ (kN.o.more kL) (h10.sb:Sat w0 _ (je p mD::qm b8 r.key (r.nums.take j) (.slice na nn nc)::aC 3 1 (.slice na nn nc) (ints (r.nums.take j))::kF b3 fG true k::aC 221 33 ov (vs.flatMap dA)::jg vs::F))).mono ?_;rintro ee iH ⟨v,rfl,rv3,rfl,tX,h11⟩;refine hK _ _ (.inr (.inl (HG.o _ _ (h11.sb)))) ?_;have MQ:=uQ (tX _ kN.o);clear hK h10 hrn tX kN;refine rP 4 ?_ (y:=(UJ ak dw));refine bW 5 ak au (λK hK=>?_);refine OV (e:=3) (sz:=1) (eX:=8) au h11 ak (cs:=#[.int .i64 (x:Int)]) rfl rfl aN ?_;intro bN w12 h12;refine hK _ _ (.inr (.inl (HG.o _ _ (h12.sb)))) ?_;clear hK h11;refine bW 6 ak au (λK hK=>?_);refine OU 3 1 8 au h12 ak ak (by first|exact aS (aS (aS aU))) aU rfl (abl 1) rfl (by unfold ints;rw [aa4];exact Hsm.o) bI bI (ys:=ints [(x:Int)]) rfl ?_;intro b' n' c' jM h13;refine hK _ _ (.inl rfl) ?_;clear hK h12;refine rP 7 ?_ (y:=bY)
      refine bW 8 ak au (λK hK=>?_);refine kQ (cs':=(dA ⟨⟨r.key,r.nums.take (j+1)⟩,.slice (some ⟨b',0,none⟩) n' c'⟩).toArray) (h13.sb:Sat w0 jM (qm b8 r.key (r.nums.take j) (.slice na nn nc)::aC 3 1 (.slice (some ⟨b',0,none⟩) n' c') (ints (r.nums.take j)++ints [(x:Int)])::je p rv3::kF b3 fG true k::aC 221 33 ov (vs.flatMap dA)::jg vs::F)) ak ak (abv r.key dS.o _ _ _ _) cZ (by show 32+1<=_;rw [kX _ dS.o];decide) au ah ?_;intro kT iM;refine hK _ _ (.inl rfl) ?_;clear hK h13;refine dH au ?_;go_wp2_with fail
      go_roundg (k-(j+1))
      case measure=>have:=kK.o;omega
      case rel=>exact ⟨j+1,_,rv3,rfl,aec kK.o,by first|rfl|go_num,MQ.o,by rw [eG.o,show ints (r.nums.take j++[(x:Int)])=ints (r.nums.take j)++ints [(x:Int)] from adU ..];rw [<-eG.o];exact iM⟩
     ·as_aux_lemma=>
      have c4:¬ (j:Int)<(k:Int):=oQ;obtain rfl:j=k:=by omega
      have hln:=lg.o.len;have e1:r.nums.drop j=[]:=aew oQ;have e2:r.nums.take j=r.nums:=ad9 oQ;rw [e1]at hRS;rw [e2]at hSj;have kN:=uQ (show RS w0 F mD Y from hRS);have dS:=uQ lg.o.key;have iV:=uQ PW.o;obtain ⟨na,nn,nc,rfl,_,_⟩:=Sat.rd (hSj.pick bf);clear hj hjl hRS hln e1 e2
      go_wp2_with (first
       |((with_reducible refine bP ⟨?_⟩);refine iQ hSj ah aU underlying221 rfl (by rw [kX _ dS.o];kernel_rfl) ?_)
       |((with_reducible refine nR ⟨?_⟩);refine nN (e:=221) (sz:=33) (eX:=56) (cs:=(dA ⟨r,.slice na nn nc⟩).toArray) au hSj ah rfl (kX ⟨r,.slice na nn nc⟩ dS.o) bI ?_;intro bN wN hN)
       |(with_reducible apply lH))
      refine ⟨oh (cs:=(dA ⟨r,.slice na nn nc⟩).toArray) 221 33 56 au hN ah ah (aS (aS (aS (aS (aS aU))))) aU (kX ⟨r,.slice na nn nc⟩ dS.o) bI Dy iV.o (by rw [kX ⟨r,.slice na nn nc⟩ dS.o];decide) bI rfl ?_⟩;intro b' n' c2 kT iM;clear hSj hN;go_wp2_with fail
      go_roundg (rs.length-(i+1))
      case measure=>have:=bT.o;omega
      case rel=>
       refine ⟨i+1,vs++[⟨r,.slice na nn nc⟩],_,mD,rfl,aec bT.o,rfl,by first|rfl|go_num,by rw [HY.o];exact kN.o,⟨?_,?_⟩,?_⟩
       ·rw [adU,eG.o,lW.o.1];rfl
       ·intro x hx;rcases aeg.1 hx with hx|hx
        ·exact lW.o.2 x hx
        ·rw [adZ.1 hx];exact dS.o
       ·rw [aeB,ael,ajb,adV];have h15:Sat w0 kT (aC 3 1 (.slice na nn nc) (ints r.nums)::jg vs::aC 221 33 (.slice (some ⟨b',0,none⟩) n' c2) (vs.flatMap dA++dA ⟨r,.slice na nn nc⟩)::je p mD::kF b3 fG true j::F):=iM.sb;exact (Ky (r:=⟨r,.slice na nn nc⟩) h15).sb
  ·as_aux_lemma=>
   have c3:¬ (i:Int)<(rs.length:Int):=oQ;obtain rfl:i=rs.length:=by omega
   rw [apH]at hRS;rw [aeo]at hvs;have kN:=uQ (show RS w0 F vN T from hRS);have lW:=uQ hvs.1;clear hi hlt hRS hvs;go_wp2_with fail;go_ret;exact ⟨_,rfl,vs,lW.o,vN,kN.o,hS.sb⟩
end Go.Proofs.Y
namespace Go.aT
open Go.aj (Bs le num jk AB)
variable {X:Bs->Nat}{mg:Bs}{kd:Bool}{l:List Rw}{k:Nat}
theorem WM:book X mg kd l=mg++(le l.length 4++(jP kd l++le (X (body mg kd l)) 8)):=by
 unfold book body;simp only [adQ]
theorem WL (hm:mg.length=8) (h:∀ r∈l,xQ k r):(book X mg kd l).take (12+l.length*jL kd k)=body mg kd l:=by
 unfold book;exact List.take_left' (BR hm h)
theorem aaQ {n:Nat} (h:n<=65536) (t:Bs):num ((le n 4++t).take 4)=n:=by
 rw [TR];exact AB 4 n (ajP h aN)
theorem aaR {n:Nat} (h:n<18446744073709551616):num ((le n 8).take 8)=n:=by
 rw [ad9 (by rw [jk];exact abl _)];exact AB 8 n (aqa h aN)
end Go.aT
namespace Go.Proofs.Y
open Go.ay
section
variable {pos:String}
theorem adJ (hx:a.eval x=vx) (hy:a.eval y=vy) (hr:∀ w,(Instr.sliceAt ty vx none (some vy) none).run P w=.ok v w):Yields P ops ⟨dst,.slice ty x none (some y) none,t,pos,after,none⟩ v a:=
 .inl ⟨mF _ rfl,λw=>by simp only [execOp,hx,hy,afW,aoC,ad1,hr,adu,aek]⟩
end
theorem acV (b:ByteArray) (l:aj.Bs) (h:b.data.toList=l):(⟨l.toArray⟩:ByteArray)=b:=by
 apply ByteArray.ext;rw [<-h]
theorem afU (us:List Rep.Use) (hok:aT.Ok 3 false (us.map Rep.jl)) (hr:Ro w0 F (bF 3 lv (us.flatMap bG))) (h:Sat w0 w F) :
  Calls prog 80 #[lv] w (aP λv w'=>∃ bv,v=.tuple #[bv,errno 0]/\Sat w0 w' (jB bv (aT.book Xx.sum aT.qM false (us.map Rep.jl))::F)):=by
 have hn:us.length<=65536:=by have:=hok.len;rwa [aa4]at this
 skip
 obtain ⟨la,lc,rfl⟩:=jK (λu _=>vP u) (hr w h) aN;have c1:¬ (65536:Int)<(us.length:Int):=oQ;have Hr:=uQ hr;have dB:=uQ hok;have Hn:=uQ hn;clear hr hok hn;go_enter func80,ntmps80;go_wp2_with fail;refine (adq h).mono ?_;rintro ee w1 ⟨v,rfl,rfl,h1⟩;clear h;go_wp2_with fail;refine (akS us Hn.o Hr.o h1).mono ?_;rintro ee w2 ⟨ov,rfl,rs,hrs,h2⟩;clear h1;have sZ:=uQ hrs;have hkey:∀ r∈rs,r.x.key.length=32/\0<r.x.nums.length:=λr hr=>by
  have h1:r.x∈us.map Rep.jl:=by rw [<-hrs];exact apt hr
  have:=dB.o.row r.x h1;exact ⟨this.key,by rw [this.len];decide⟩
 have dS:=uQ hkey;clear hrs hkey;go_wp2_with fail;refine (WO ⟨#[72,79,65,82,68,85,83,69]⟩ aT.qM rfl rfl false 3 aN rs (by rw [sZ.o];exact dB.o) (λw hw=>Sat.rd hw) (λr hr=>(Dc hr (dS.o r hr).1 (dS.o r hr).2).sub kL) h2).mono ?_;rintro ee w3 ⟨v,rfl,bv,rfl,h3⟩;rw [sZ.o]at h3;clear h2;go_wp2_with fail
 go_ret2
 exact ⟨_,rfl,bv,rfl,h3.sb⟩
theorem afN (us:List (aj.Bs×Seg.aV)) (hk:∀ q∈us,q.1.length=32) (hok:aT.Ok 3 true (us.map Rep.ji)) (hr:Ro w0 F (bF 35 lv (us.flatMap gW))) (h:Sat w0 w F) :
  Calls prog 78 #[lv] w (aP λv w'=>∃ bv,v=.tuple #[bv,errno 0]/\Sat w0 w' (jB bv (aT.book Xx.sum aT.qL true (us.map Rep.ji))::F)):=by
 have hn:us.length<=65536:=by have:=hok.len;rwa [aa4]at this
 have Hk:=uQ hk;obtain ⟨la,lc,rfl⟩:=jK (λu hu=>lJ u (Hk.o u hu)) (hr w h) aN;have c1:¬ (65536:Int)<(us.length:Int):=oQ;have Hr:=uQ hr;have dB:=uQ hok;have Hn:=uQ hn;clear hr hok hn;go_enter func78,ntmps78;go_wp2_with fail;refine (ZJ h).mono ?_;rintro ee w1 ⟨v,rfl,rfl,h1⟩;clear h;go_wp2_with fail;refine (akR us Hn.o Hk.o Hr.o h1).mono ?_;rintro ee w2 ⟨ov,rfl,rs,hrs,h2⟩;clear h1;have sZ:=uQ hrs;have hkey:∀ r∈rs,r.x.key.length=32/\0<r.x.nums.length:=λr hr=>by
  have h1:r.x∈us.map Rep.ji:=by rw [<-hrs];exact apt hr
  have:=dB.o.row r.x h1;exact ⟨this.key,by rw [this.len];decide⟩
 have dS:=uQ hkey;clear hrs hkey;go_wp2_with fail;refine (WO ⟨#[72,79,65,82,68,73,68,88]⟩ aT.qL rfl rfl true 3 aN rs (by rw [sZ.o];exact dB.o) (λw hw=>Sat.rd hw) (λr hr=>(Dc hr (dS.o r hr).1 (dS.o r hr).2).sub kL) h2).mono ?_;rintro ee w3 ⟨v,rfl,bv,rfl,h3⟩;rw [sZ.o]at h3;clear h2;go_wp2_with fail
 go_ret2
 exact ⟨_,rfl,bv,rfl,h3.sb⟩
theorem afP (fG:ByteArray) (mg:aj.Bs) (hmb:fG.data.toList=mg) (qI:mg.length=8) (k:Nat) (hk:k<=3) (hk0:0<k) (rs:List aT.Rw) (hok:aT.Ok k false rs) (hz:∀ r∈rs,r.key=aj.zero32) (hr:RS w0 F bv (aT.book Xx.sum mg false rs)) (h:Sat w0 w F) :
  Calls prog 183 #[.agg (mZ fG false k),bv] w (aP λv w'=>∃ (vs:List RV) (lv:Value),v=.tuple #[lv,errno 0]/\vs.map (·.x)=rs/\Sat w0 w' (aC 221 33 lv (vs.flatMap dA)::jg vs::F)):=by
 obtain ⟨ba,bc,rfl,hbc,hbm⟩:=hr.len h;have hlen:(aT.book Xx.sum mg false rs).length=20+rs.length*aT.jL false k:=aT.x8 qI hok.row;have hbe:=aT.WM (X:=Xx.sum) (mg:=mg) (kd:=false) (l:=rs);have hbt:=aT.WL (X:=Xx.sum) (mg:=mg) (kd:=false) qI hok.row;have hb3:(aT.body mg false rs).length=12+rs.length*aT.jL false k:=aT.BR qI hok.row;have hz1:rs.length*aT.jL false k<=65536*44:=an9 hok.len (aT.KP hk);have hto:=RS.to hr (k:=12+rs.length*aT.jL false k) (by rw [hlen];omega) bc (adt (by rw [hlen];omega) hbc) (abl _);rw [hbt]at hto;obtain ⟨ta,tc,hte,_,_⟩:=hto.len h;rw [hte]at hto;obtain ⟨S,hS⟩:∃ S,Xx.sum (aT.body mg false rs)=S:=⟨_,rfl⟩;have hSl:S<18446744073709551616:=by rw [<-hS];exact Xx.sum_lt _
 rw [hS]at hbe;have NZ:=uQ hto;have Hte:=uQ hte;clear hto hte;have Hlen:=uQ hlen;have MW:=uQ hbe;have Hbt:=uQ hbt;have Hb3:=uQ hb3;have HS:=uQ hS;have Eb:=uQ hSl;obtain ⟨Z,hZ⟩:∃ Z,rs.length*aT.jL false k=Z:=⟨_,rfl⟩;have HZ:=uQ hZ;rw [hZ]at hz1 hlen;have pU:=uQ hz1;have Hr:=uQ hr;have dB:=uQ hok;have BK:=uQ hmb;have pK:=uQ qI;have Hk:=uQ hk;have Ns:=uQ hk0;have MV:=uQ hbc;have Hbm:=uQ hbm;have Hz:=uQ hz;have sW:=uQ (show (aT.book Xx.sum mg false rs).length=20+Z from hlen);clear hbe hbt hb3 hz1 hS hSl hZ hr hok hmb qI hk hk0 hbc hbm hlen hz;have c1:¬ ((aT.book Xx.sum mg false rs).length:Int)<12:=by have:=sW.o;omega
 have c2:¬ (65536:Int)<(rs.length:Int):=by have:=dB.o.len;omega
 have c3:¬ ((aT.book Xx.sum mg false rs).length:Int)<20+(Z:Int):=by have:=sW.o;omega
 have c4:¬ (20+(Z:Int))<((aT.book Xx.sum mg false rs).length:Int):=by have:=sW.o;omega
 go_enter func183,ntmps183;go_wp2_with (with_reducible apply fD);refine ⟨fE h ah ah ?_⟩;intro b2 w2 h2;replace h2:Sat w0 w2 (kF b2 fG false k::F):=h2;clear h;go_wp2_with fail;refine (abY (by rw [sW.o];have:=pU.o;omega) (Hr.o.more kL) h2).mono ?_;rintro ee w3 ⟨v,rfl,p,rv,rfl,h3,hrs⟩;clear h2;have Ar:RS w0 (bQ rv (aT.book Xx.sum mg false rs)::kF b2 fG false k::F) rv (mg++(aj.le rs.length 4++(aT.jP false rs++aj.le S 8))):=by rw [<-MW.o];exact hrs
 generalize hG0:bQ rv (aT.book Xx.sum mg false rs)=BB at *
 clear hG0;have htx:=ach (by rw [aaL,pK.o];omega) Ar h3;rw [List.take_left' pK.o,List.drop_left' pK.o,acV fG mg BK.o]at htx;clear hrs h3;go_wp2_with fail;refine htx.mono ?_;rintro ee w4 ⟨v,rfl,rJ,rfl,hr1,h4⟩;have vw:=hr1 _ Ar;clear htx hr1 Ar;have hn4:=KO (by rw [aaL,aj.jk];omega) vw h4;rw [aT.aaQ dB.o.len,aT.Jj]at hn4;clear h4;go_wp2_with fail;refine hn4.mono ?_;rintro ee w5 ⟨v,rfl,mD,rfl,hr2,h5⟩;have yD:=hr2 _ vw;have NR:=uQ (show RS w0 (BB::kF b2 fG false k::F) mD (aT.jP false rs++aj.le S 8) from yD);clear hn4 hr2 vw yD;have hwn:IntKind.i64.wrap (rs.length:Int)=(rs.length:Int):=adr _ (by have:=dB.o.len;omega);have hw1:IntKind.i64.wrap ((rs.length:Int)*((aT.jL false k:Nat):Int))=(Z:Int):=by
  rw [<-aqe,HZ.o];exact adr _ yU0
 have hw2:IntKind.i64.wrap (12+(Z:Int))=12+(Z:Int):=adr _ yU0;have hw3:IntKind.i64.wrap (12+(Z:Int)+8)=20+(Z:Int):=by rw [show 12+(Z:Int)+8=20+(Z:Int) by omega];exact adr _ yU0
 have hw4:IntKind.i64.wrap (20+(Z:Int)-8)=12+(Z:Int):=by rw [show 20+(Z:Int)-8=12+(Z:Int) by omega];exact adr _ yU0
 have hsl:∀ w,(Instr.sliceAt 39 (.slice ba (aT.book Xx.sum mg false rs).length bc) none (some (.int .i64 (12+(Z:Int)))) none).run prog w=.ok (.slice ta (aT.body mg false rs).length tc) w:=λw=>by
  have:=La (a:=ba) (n:=(aT.book Xx.sum mg false rs).length) (c:=bc) (k:=12+Z) (by have:=sW.o;have:=MV.o;omega) w;rw [<-HZ.o,Hte.o,HZ.o]at this;rw [show (12+(Z:Int))=((12+Z:Nat):Int) by omega];exact this
 have uP:=uQ hsl;clear hsl;generalize (aT.book Xx.sum mg false rs).length=L at *
 go_wp2_with (first
  |((with_reducible refine bP ⟨?_⟩);first
   |refine iQ h5 ah eH underlying213 rfl au ?_
   |refine fZ h5 ah eH bI ak au ?_))
 refine (ZT fG false k (by have:=Hk.o;omega) h5).mono ?_;rintro ee w6 ⟨v,rfl,rfl,h6⟩;clear h5
 go_wp2_with (first
  |((with_reducible refine bP ⟨?_⟩);refine iQ h6 ah eH underlying213 rfl au ?_))
 refine (ajg fG k Hk.o rs dB.o.row dB.o.len Hz.o (aj.le S 8) NR.o h6).mono ?_;rintro ee w7 ⟨v,rfl,vs,rv3,hvs,tX,h7⟩;have lW:=uQ hvs;have NS:=uQ tX;clear h6 hvs tX;go_wp2_with fail;have hG:True:=trivial;have h8:=h7.drew;clear h7;refine dN [] (λw'=>True) au ?_;refine rP 0 ?_ (y:=aZ);refine rP 2 ?_ (y:=aZ);refine rP 3 ?_ (y:=aZ);refine rP 4 ?_ (y:=jH);refine rP 5 ?_ (y:=(adJ ak ak uP.o));refine bW 1 ak au (λK hK=>?_)
 (refine iC au ak ak ?_)
 have Ak:=abX (F:=aC 221 33 v (vs.flatMap dA)::jg vs::BB::kF b2 fG false k::F) (by rw [aj.jk];exact abl _) (NS.o.more kL) (h8.sb:Sat w0 _ (je p rv3::aC 221 33 v (vs.flatMap dA)::jg vs::BB::kF b2 fG false k::F));rw [aT.aaR Eb.o]at Ak;refine Ak.mono ?_;rintro ee w9 ⟨v2,rfl,Tq,rfl,_,h9⟩;refine hK _ _ (.inr (.inl trivial)) ?_;clear hK Ak h8;refine bW 6 ak au (λK hK=>?_)
 (refine iC au ak ak ?_)
 have hxs:=UG (l:=aT.body mg false rs) (λe=>by have:=Hb3.o;rw [e]at this;simp only [aeL]at this;omega) (by rw [Hb3.o,HZ.o];have:=pU.o;omega) (NZ.o.more kL) h9;rw [HS.o]at hxs;refine hxs.mono ?_;rintro ee w10 ⟨v3,rfl,rfl,h10⟩;refine hK _ _ (.inr (.inl trivial)) ?_;clear hK hxs h9;refine rP 7 ?_ (y:=jH);refine dH au ?_;go_wp2_with ((with_reducible refine bP ⟨?_⟩);refine iQ h10 ah (aS iO) underlying213 rfl au ?_)
 have dS:=uQ (show ∀ r∈vs,r.x.key.length=32/\0<r.x.nums.length from λr hr=>by
  have h1:r.x∈rs:=by rw [<-lW.o];exact apt hr
  have:=dB.o.row r.x h1;exact ⟨this.key,by rw [this.len];exact Ns.o⟩)
 have N7:=uQ (show vs.length<=1073741824 from by
  have:=aey List.length lW.o;rw [aa4]at this;have:=dB.o.len;omega)
 refine (RQ fG false k vs N7.o (λw hw=>Sat.rd (hw.sb:Sat w0 w (aC 221 33 v (vs.flatMap dA)::je p Tq::jg vs::BB::kF b2 fG false k::F))) (λr hr=>(Dc hr (dS.o r hr).1 (dS.o r hr).2).sub kL) h10).mono ?_;rintro ee iH ⟨v4,rfl,t,rfl,ht,h11⟩;have ht2:t=true:=ht.2 (by rw [lW.o];exact dB.o.rise);subst ht2;clear h10 ht;go_wp2_with fail
 go_ret2
 exact ⟨_,rfl,vs,v,rfl,lW.o,h11.sb⟩
theorem afR (fG:ByteArray) (mg:aj.Bs) (hmb:fG.data.toList=mg) (qI:mg.length=8) (k:Nat) (hk:k<=3) (hk0:0<k) (rs:List aT.Rw) (hok:aT.Ok k true rs) (hr:RS w0 F bv (aT.book Xx.sum mg true rs)) (h:Sat w0 w F) :
  Calls prog 183 #[.agg (mZ fG true k),bv] w (aP λv w'=>∃ (vs:List RV) (lv:Value),v=.tuple #[lv,errno 0]/\vs.map (·.x)=rs/\Sat w0 w' (aC 221 33 lv (vs.flatMap dA)::jg vs::F)):=by
 obtain ⟨ba,bc,rfl,hbc,hbm⟩:=hr.len h;have hlen:(aT.book Xx.sum mg true rs).length=20+rs.length*aT.jL true k:=aT.x8 qI hok.row;have hbe:=aT.WM (X:=Xx.sum) (mg:=mg) (kd:=true) (l:=rs);have hbt:=aT.WL (X:=Xx.sum) (mg:=mg) (kd:=true) qI hok.row;have hb3:(aT.body mg true rs).length=12+rs.length*aT.jL true k:=aT.BR qI hok.row;have hz1:rs.length*aT.jL true k<=65536*44:=an9 hok.len (aT.KP hk);have hto:=RS.to hr (k:=12+rs.length*aT.jL true k) (by rw [hlen];omega) bc (adt (by rw [hlen];omega) hbc) (abl _);rw [hbt]at hto;obtain ⟨ta,tc,hte,_,_⟩:=hto.len h;rw [hte]at hto;obtain ⟨S,hS⟩:∃ S,Xx.sum (aT.body mg true rs)=S:=⟨_,rfl⟩;have hSl:S<18446744073709551616:=by rw [<-hS];exact Xx.sum_lt _
 rw [hS]at hbe;have NZ:=uQ hto;have Hte:=uQ hte;clear hto hte;have Hlen:=uQ hlen;have MW:=uQ hbe;have Hbt:=uQ hbt;have Hb3:=uQ hb3;have HS:=uQ hS;have Eb:=uQ hSl;obtain ⟨Z,hZ⟩:∃ Z,rs.length*aT.jL true k=Z:=⟨_,rfl⟩;have HZ:=uQ hZ;rw [hZ]at hz1 hlen;have pU:=uQ hz1;have Hr:=uQ hr;have dB:=uQ hok;have BK:=uQ hmb;have pK:=uQ qI;have Hk:=uQ hk;have Ns:=uQ hk0;have MV:=uQ hbc;have Hbm:=uQ hbm;have sW:=uQ (show (aT.book Xx.sum mg true rs).length=20+Z from hlen);clear hbe hbt hb3 hz1 hS hSl hZ hr hok hmb qI hk hk0 hbc hbm hlen;have c1:¬ ((aT.book Xx.sum mg true rs).length:Int)<12:=by have:=sW.o;omega
 have c2:¬ (65536:Int)<(rs.length:Int):=by have:=dB.o.len;omega
 have c3:¬ ((aT.book Xx.sum mg true rs).length:Int)<20+(Z:Int):=by have:=sW.o;omega
 have c4:¬ (20+(Z:Int))<((aT.book Xx.sum mg true rs).length:Int):=by have:=sW.o;omega
 go_enter func183,ntmps183;go_wp2_with (with_reducible apply fD);refine ⟨fE h ah ah ?_⟩;intro b2 w2 h2;replace h2:Sat w0 w2 (kF b2 fG true k::F):=h2;clear h;go_wp2_with fail;refine (abY (by rw [sW.o];have:=pU.o;omega) (Hr.o.more kL) h2).mono ?_;rintro ee w3 ⟨v,rfl,p,rv,rfl,h3,hrs⟩;clear h2;have Ar:RS w0 (bQ rv (aT.book Xx.sum mg true rs)::kF b2 fG true k::F) rv (mg++(aj.le rs.length 4++(aT.jP true rs++aj.le S 8))):=by rw [<-MW.o];exact hrs
 generalize hG0:bQ rv (aT.book Xx.sum mg true rs)=BB at *
 clear hG0;have htx:=ach (by rw [aaL,pK.o];omega) Ar h3;rw [List.take_left' pK.o,List.drop_left' pK.o,acV fG mg BK.o]at htx;clear hrs h3;go_wp2_with fail;refine htx.mono ?_;rintro ee w4 ⟨v,rfl,rJ,rfl,hr1,h4⟩;have vw:=hr1 _ Ar;clear htx hr1 Ar;have hn4:=KO (by rw [aaL,aj.jk];omega) vw h4;rw [aT.aaQ dB.o.len,aT.Jj]at hn4;clear h4;go_wp2_with fail;refine hn4.mono ?_;rintro ee w5 ⟨v,rfl,mD,rfl,hr2,h5⟩;have yD:=hr2 _ vw;have NR:=uQ (show RS w0 (BB::kF b2 fG true k::F) mD (aT.jP true rs++aj.le S 8) from yD);clear hn4 hr2 vw yD;have hwn:IntKind.i64.wrap (rs.length:Int)=(rs.length:Int):=adr _ (by have:=dB.o.len;omega);have hw1:IntKind.i64.wrap ((rs.length:Int)*((aT.jL true k:Nat):Int))=(Z:Int):=by
  rw [<-aqe,HZ.o];exact adr _ yU0
 have hw2:IntKind.i64.wrap (12+(Z:Int))=12+(Z:Int):=adr _ yU0;have hw3:IntKind.i64.wrap (12+(Z:Int)+8)=20+(Z:Int):=by rw [show 12+(Z:Int)+8=20+(Z:Int) by omega];exact adr _ yU0
 have hw4:IntKind.i64.wrap (20+(Z:Int)-8)=12+(Z:Int):=by rw [show 20+(Z:Int)-8=12+(Z:Int) by omega];exact adr _ yU0
 have hsl:∀ w,(Instr.sliceAt 39 (.slice ba (aT.book Xx.sum mg true rs).length bc) none (some (.int .i64 (12+(Z:Int)))) none).run prog w=.ok (.slice ta (aT.body mg true rs).length tc) w:=λw=>by
  have:=La (a:=ba) (n:=(aT.book Xx.sum mg true rs).length) (c:=bc) (k:=12+Z) (by have:=sW.o;have:=MV.o;omega) w;rw [<-HZ.o,Hte.o,HZ.o]at this;rw [show (12+(Z:Int))=((12+Z:Nat):Int) by omega];exact this
 have uP:=uQ hsl;clear hsl;generalize (aT.book Xx.sum mg true rs).length=L at *
 go_wp2_with (first
  |((with_reducible refine bP ⟨?_⟩);first
   |refine iQ h5 ah eH underlying213 rfl au ?_
   |refine fZ h5 ah eH bI ak au ?_))
 refine (ZT fG true k (by have:=Hk.o;omega) h5).mono ?_;rintro ee w6 ⟨v,rfl,rfl,h6⟩;clear h5
 go_wp2_with (first
  |((with_reducible refine bP ⟨?_⟩);refine iQ h6 ah eH underlying213 rfl au ?_))
 refine (ajh fG k Hk.o rs dB.o.row dB.o.len (aj.le S 8) NR.o h6).mono ?_;rintro ee w7 ⟨v,rfl,vs,rv3,hvs,tX,h7⟩;have lW:=uQ hvs;have NS:=uQ tX;clear h6 hvs tX;go_wp2_with fail;have hG:True:=trivial;have h8:=h7.drew;clear h7;refine dN [] (λw'=>True) au ?_;refine rP 0 ?_ (y:=aZ);refine rP 2 ?_ (y:=aZ);refine rP 3 ?_ (y:=aZ);refine rP 4 ?_ (y:=jH);refine rP 5 ?_ (y:=(adJ ak ak uP.o));refine bW 1 ak au (λK hK=>?_)
 (refine iC au ak ak ?_)
 have Ak:=abX (F:=aC 221 33 v (vs.flatMap dA)::jg vs::BB::kF b2 fG true k::F) (by rw [aj.jk];exact abl _) (NS.o.more kL) (h8.sb:Sat w0 _ (je p rv3::aC 221 33 v (vs.flatMap dA)::jg vs::BB::kF b2 fG true k::F));rw [aT.aaR Eb.o]at Ak;refine Ak.mono ?_;rintro ee w9 ⟨v2,rfl,Tq,rfl,_,h9⟩;refine hK _ _ (.inr (.inl trivial)) ?_;clear hK Ak h8;refine bW 6 ak au (λK hK=>?_)
 (refine iC au ak ak ?_)
 have hxs:=UG (l:=aT.body mg true rs) (λe=>by have:=Hb3.o;rw [e]at this;simp only [aeL]at this;omega) (by rw [Hb3.o,HZ.o];have:=pU.o;omega) (NZ.o.more kL) h9;rw [HS.o]at hxs;refine hxs.mono ?_;rintro ee w10 ⟨v3,rfl,rfl,h10⟩;refine hK _ _ (.inr (.inl trivial)) ?_;clear hK hxs h9;refine rP 7 ?_ (y:=jH);refine dH au ?_;go_wp2_with ((with_reducible refine bP ⟨?_⟩);refine iQ h10 ah (aS iO) underlying213 rfl au ?_)
 have dS:=uQ (show ∀ r∈vs,r.x.key.length=32/\0<r.x.nums.length from λr hr=>by
  have h1:r.x∈rs:=by rw [<-lW.o];exact apt hr
  have:=dB.o.row r.x h1;exact ⟨this.key,by rw [this.len];exact Ns.o⟩)
 have N7:=uQ (show vs.length<=1073741824 from by
  have:=aey List.length lW.o;rw [aa4]at this;have:=dB.o.len;omega)
 refine (RQ fG true k vs N7.o (λw hw=>Sat.rd (hw.sb:Sat w0 w (aC 221 33 v (vs.flatMap dA)::je p Tq::jg vs::BB::kF b2 fG true k::F))) (λr hr=>(Dc hr (dS.o r hr).1 (dS.o r hr).2).sub kL) h10).mono ?_;rintro ee iH ⟨v4,rfl,t,rfl,ht,h11⟩;have ht2:t=true:=ht.2 (by rw [lW.o];exact dB.o.rise);subst ht2;clear h10 ht;go_wp2_with fail
 go_ret2
 exact ⟨_,rfl,vs,v,rfl,lW.o,h11.sb⟩
end Go.Proofs.Y
