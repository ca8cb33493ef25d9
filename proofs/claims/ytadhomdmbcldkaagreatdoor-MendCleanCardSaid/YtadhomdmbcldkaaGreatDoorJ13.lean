import Derived.Test.YtadhomdmbcldkaaGreatDoorJ12
import Derived.Test.YtadhomdmbcldkaaGreatDoorSort
set_option linter.unusedSimpArgs false
open Go.Proofs.Tryz
set_option maxRecDepth 20000
set_option linter.unusedVariables false
set_option maxHeartbeats 128000000
open Go Go.Sl Go.MapKept Go.RowKit
open Go.Proofs.YtadhomdmbcldkaaGreatDoor Go.Proofs.Y
variable {w0 w:World}{F R:List aF}{p B m K n r r0 E:Nat}{k:aj.Bs}{v sv lv x:Value}{M:ak.ak}{y:Mp}{zs:List Sg}{seg N limit:Int}{oc:aj.Bs->Option aj.Bs}{ys:List Mp}{L:Seg.Log}{D:List (Nat×List aj.aJ)}{us:List Rep.Use}
namespace Go.Proofs.Y
open Go.ak
theorem ajA {y:Mp} (hy:qI y):Rep.jK (Seg.gI y.1.2)=(match y.2.1.getLast? with|some q=>q.1.e.tag==2|none=>false):=by
 rw [<-Seg.Ui,<-hy.PW,ahU];unfold Rep.jK;rw [apw];cases y.2.1.getLast? <;> rfl
def G7 (b:aj.Bs) (n:Nat):Rep.dI:=Rep.fault (n:Int) (aj.scan b).2.1
section
variable {R:List (Nat×aj.Bs)}
theorem Qb {fs:Fs}{a:Option Addr}{n c i:Nat}{q:aj.dK×Value} (hk:∀ q∈fs,q.1.e.key.length=32) (h:aW 36 (.slice a n c) (iF fs) w) (hi:fs[i]?=some q) :
  ∃ bk off,a=some ⟨bk,off,none⟩/\∀ j v,(nP q.1 q.2)[j]?=some v->w.cell? ⟨bk,off+i*36+j,none⟩=some v:=by
 obtain ⟨bk,off,c',e,hc⟩:=iL (f:=λq:aj.dK×Value=>nP q.1 q.2) (k:=36) (λq hq=>xY q.1 q.2 (hk q hq)) h hi aG;cases e;exact ⟨bk,off,rfl,hc⟩
theorem Sv (hy:qI y) (hl:y.2.1.length<=16777216) (hr:Ro w0 F (aW 36 y.2.2 (iF y.2.1))) (h:Sat w0 w F) :
  Calls prog 107 #[.agg (cO y).toArray] w (aN λv w'=>v=.bool (Rep.jK (Seg.gI y.1.2))/\Sat w0 w' F):=by
 have he:=ajA hy;obtain ⟨⟨n,b⟩,fs,sv⟩:=y;obtain ⟨hf,hk,a,c,hsv⟩:=hy;obtain rfl:sv=.slice a fs.length c:=hsv;have Hr:=uQ hr;have Hl:=uQ hl;have Hk:=uQ hk;clear hf hr hl hk;show Calls _ _ #[.agg #[.int .i64 n,.slice a fs.length c,.int .i64 (aj.scan b).2.1,.int .i64 (aj.scan b).2.2]] _ _;have He:=uQ he;clear he;dsimp only at He;generalize aj.scan b=sc at *
 obtain ⟨TW,kN,kV⟩:=sc;dsimp only;cases hg:fs.getLast? with
 |none=>
  have hnil:fs=[]:=aox.1 hg;have Oo:=uQ (He.o.trans (by rw [hg]));have c1:¬ (0:Int)<(fs.length:Int):=by rw [hnil];decide
  clear hnil hg He;go_enter func107,ntmps107;go_wp2_with (with_reducible apply fC);refine ⟨fB h ah ah ?_⟩;intro b1 w1 h1;replace h1:Sat w0 w1 (pt b1 (.cells #[.int .i64 n,.slice a fs.length c,.int .i64 kN,.int .i64 kV] 189 (0,0))::F):=h1;have e1:w1.cell? ⟨b1,1,none⟩=some (.slice a fs.length c):=h1.cellP aK 1 rfl;go_wp2_with fail;go_ret;exact ⟨_,rfl,by rw [Oo.o];rfl,h1.drop⟩
 |some q=>
  have hpos:0<fs.length:=by
   cases fs with
   |nil=>cases hg
   |cons x l=>exact Nat.succ_pos _
  have hi:fs[fs.length-1]?=some q:=by rw [<-aoy];exact hg
  obtain ⟨bk,off,rfl,hcell⟩:=Qb Hk.o (Hr.o w h) hi
  have hcl:=uQ (λ(w':World) (hw:Sat w0 w' F)=>show w'.cell? ⟨bk,off+(fs.length-1)*36,none⟩=some (.int .i64 q.1.e.tag) from by
   obtain ⟨_,_,e,hc⟩:=Qb Hk.o (Hr.o w' hw) hi;cases e;exact hc 0 _ rfl)
  have Oo:=uQ (He.o.trans (by rw [hg]));have c1:(0:Int)<(fs.length:Int):=oQ;have w1:IntKind.i64.wrap ((fs.length:Int)-1)=((fs.length-1:Nat):Int):=by rw [acO _ (by have:=Hl.o;dsimp only at *;omega)];omega
  have c2:((fs.length-1:Nat):Int)<(fs.length:Int):=oQ;clear hi hcell hg He hpos;generalize fs.length-1=k at *
  go_enter func107,ntmps107;go_wp2_with (with_reducible apply fC);refine ⟨fB h ah ah ?_⟩;intro b1 w2 h1;replace h1:Sat w0 w2 (pt b1 (.cells #[.int .i64 n,.slice (some ⟨bk,off,none⟩) fs.length c,.int .i64 kN,.int .i64 kV] 189 (0,0))::F):=h1;have e1:w2.cell? ⟨b1,1,none⟩=some (.slice (some ⟨bk,off,none⟩) fs.length c):=h1.cellP aK 1 rfl;have e2:w2.cell? ⟨bk,off+k*36,none⟩=some (.int .i64 q.1.e.tag):=hcl.o _ h1.drop;go_wp2_with fail;go_ret;exact ⟨_,rfl,by rw [Oo.o];rfl,h1.drop⟩
theorem akl (h:Sat w0 w F):Calls prog 98 #[.agg (cO y).toArray] w (aN λv w'=>v=.agg (dW (G7 y.1.2 y.1.1))/\Sat w0 w' F):=by
 obtain ⟨⟨n,b⟩,fs,sv⟩:=y;have Hm:=uQ (show G7 b n=if (aj.scan b).2.1=0 then ⟨1,(n:Int),0⟩ else ⟨2,(n:Int),((aj.scan b).2.1:Int)⟩ from rfl);show Calls _ _ #[.agg #[.int .i64 n,sv,.int .i64 (aj.scan b).2.1,.int .i64 (aj.scan b).2.2]] _ (aN λv w'=>v=.agg (dW (G7 b n))/\Sat w0 w' F);generalize aj.scan b=sc at *
 obtain ⟨TW,kN,kV⟩:=sc;dsimp only at Hm;dsimp only;by_cases h0:kN=0
 ·have FH:=uQ (Hm.o.trans (adU h0));subst h0;go_enter func98,ntmps98;go_wp2_with (with_reducible apply fC);refine ⟨fB h ah ah ?_⟩;intro b1 w1 h1;replace h1:Sat w0 w1 (pt b1 (.cells #[.int .i64 n,sv,.int .i64 ((0:Nat):Int),.int .i64 kV] 189 (0,0))::F):=h1;go_wp2_with (with_reducible apply eG);refine ⟨eU pY h1 rfl ?_⟩;intro b2 w2 h2;have e0:w2.cell? ⟨b1,0,none⟩=some (.int .i64 n):=h2.cellP aT 0 rfl;have e2:w2.cell? ⟨b1,2,none⟩=some (.int .i64 0):=h2.cellP aT 2 rfl
  go_wp2_with (first
   |((with_reducible refine FX ⟨?_⟩);refine IW ah ah (λw=>LX 1 n w) ?_)
   |((with_reducible refine bW ⟨?_⟩);refine fG (dW ⟨1,n,0⟩) h2 ah ah ah bU au ah ?_;intro w9 h9))
  refine ⟨rfl,_,wY rfl h9 ah bK underlying36 rfl au,?_⟩;exact ⟨_,rfl,by rw [FH.o],h9.drop.drop⟩
 ·have FH:=uQ (Hm.o.trans (abL h0));have hb:((kN:Int)==0)=false:=by rw [ad3];omega
  clear h0;go_enter func98,ntmps98;go_wp2_with (with_reducible apply fC);refine ⟨fB h ah ah ?_⟩;intro b1 w1 h1;replace h1:Sat w0 w1 (pt b1 (.cells #[.int .i64 n,sv,.int .i64 kN,.int .i64 kV] 189 (0,0))::F):=h1;go_wp2_with (with_reducible apply eG);refine ⟨eU pY h1 rfl ?_⟩;intro b2 w2 h2;have e0:w2.cell? ⟨b1,0,none⟩=some (.int .i64 n):=h2.cellP aT 0 rfl;have e2:w2.cell? ⟨b1,2,none⟩=some (.int .i64 kN):=h2.cellP aT 2 rfl
  go_wp2_with (first
   |((with_reducible refine Ju ⟨?_⟩);refine Nh ah ah ah (λw=>ace 2 n kN w) ?_)
   |((with_reducible refine bW ⟨?_⟩);refine fG (dW ⟨2,n,kN⟩) h2 ah ah ah bU au ah ?_;intro w9 h9))
  refine ⟨rfl,_,wY rfl h9 ah bK underlying36 rfl au,?_⟩;exact ⟨_,rfl,by rw [FH.o],h9.drop.drop⟩
end
theorem Xi (d:Nat×aj.Bs):∀ (R:List (Nat×aj.Bs)) (a:Int),Seg.jA a (R++[d])=if Seg.jV d.2=false/\Rep.jK (Seg.gI d.2)=true then (d.1:Int) else Seg.jA a R
 |[],a=>rfl
 |x::R,a=>Xi d R _
theorem ZJ (d:Nat×aj.Bs):∀ (R:List (Nat×aj.Bs)) (a:Int),Seg.kT a (R++[d])=if Rep.jK (Seg.gI d.2)=true then max (Seg.kT a R) (d.1:Int) else Seg.kT a R
 |[],a=>rfl
 |x::R,a=>ZJ d R _
section
variable {lc:Nat}{la:Option Addr}{R:List (Nat×aj.Bs)}
theorem CG {i:Nat}{a:Option Addr}{n c:Nat} (h:aW 4 (.slice a n c) (ys.flatMap cO) w) (hi:ys[i]?=some y):∃ bk off,a=some ⟨bk,off,none⟩/\∀ j v,(cO y)[j]?=some v->w.cell? ⟨bk,off+i*4+j,none⟩=some v:=by
 obtain ⟨bk,off,c',e,hc⟩:=iL (f:=cO) (k:=4) (λy _=>Rn y) h hi aG;cases e;exact ⟨bk,off,rfl,hc⟩
theorem P9 (hy:qI y) (h:y.1.2.length<=16777216):y.2.1.length<=16777216:=by
 have h1:=aeO List.length (Seg.Ui y.1.2);rw [<-hy.PW,abl,abl]at h1;have h2:=Seg.TT y.1.2;omega
theorem agk (hlen:∀ d∈R,d.2.length<=16777216) (hn:R.length<=65536) (hR:ys.map (·.1)=R) (hok:∀ y∈ys,qI y) (hz:∀ y∈ys,vV y∈zs) (h:Sat w0 w (aC 189 4 (.slice la ys.length lc) (ys.flatMap cO)::dY zs::F)) :
  Calls prog 99 #[.slice la ys.length lc] w (aN λv w'=>v=.int .i64 (Seg.jA (-1) R)/\Sat w0 w' (aC 189 4 (.slice la ys.length lc) (ys.flatMap cO)::dY zs::F)):=by
 have hS:=h;clear h;have Hlen:=uQ hlen;have HR:=uQ hR;have bI:=uQ hok;have Hz:=uQ hz;have og:=uQ (show ys.length<=65536 by have:=aeO List.length hR;rw [abl]at this;omega);clear hlen hn hR hok hz;go_enter func99,ntmps99;go_wp2_with fail
 go_loopg [3,8] ys.length (λg ov iq wr=>∃ i:Nat,g=ys.length-i/\i<=ys.length/\ov=.int .i64 (Seg.jA (-1) (R.take i))/\iq=.int .i64 i/\Sat w0 wr (aC 189 4 (.slice la ys.length lc) (ys.flatMap cO)::dY zs::F))
 case atStart=>exact ⟨0,rfl,ad4 _,rfl,rfl,hS⟩
 case round=>
  obtain ⟨i,rfl,hi,rfl,rfl,hS2⟩:=hrel;clear hS;by_cases hlt:i<ys.length;rotate_left
  ·have c1:¬ (i:Int)<(ys.length:Int):=by omega
   have Hr:=uQ (show R.take i=R by rw [adZ];rw [<-HR.o,abl];omega);clear hlt hi;go_wp2_with fail;go_ret;exact ⟨_,rfl,by rw [Hr.o];rfl,hS2⟩
  have c1:(i:Int)<(ys.length:Int):=oQ;have hwi:IntKind.i64.wrap ((i:Int)+1)=(i:Int)+1:=acO _ (by have:=og.o;omega);obtain ⟨y,hy⟩:∃ y,ys[i]?=some y:=⟨_,aaJ hlt⟩;obtain ⟨bk,off,rfl,hcell⟩:=CG (Sat.rd hS2) hy;have hym:=acr hy;have dP:=uQ (show R.take (i+1)=R.take i++[y.1] by rw [aeN,<-HR.o,ad1,hy];rfl);have Hy:=uQ (bI.o y hym);have Hl:=uQ (P9 (bI.o y hym) (Hlen.o y.1 (by rw [<-HR.o];exact adu.2 ⟨y,hym,rfl⟩)));have lK:=uQ (show Ro w0 (dY zs::aC 189 4 (.slice (some ⟨bk,off,none⟩) ys.length lc) (ys.flatMap cO)::F) (aW 36 y.2.2 (iF y.2.1)) from λw hw=>JB (Hz.o y hym) hw);have aS:=uQ hlt;obtain ⟨cm,hcm⟩:∃ cm,cm=Seg.jA (-1) (R.take i):=⟨_,rfl⟩;have qj:=uQ (show Seg.jA (-1) (R.take (i+1))=if Seg.jV y.1.2=false/\Rep.jK (Seg.gI y.1.2)=true then (y.1.1:Int) else cm by rw [dP.o,Xi,hcm]);rw [<-hcm]
  have Hb:=uQ (show Seg.jV y.1.2=((aj.scan y.1.2).2.2 != 0) from rfl);have hcl:∀ j v,[Value.int .i64 y.1.1,y.2.2,.int .i64 (aj.scan y.1.2).2.1,.int .i64 (aj.scan y.1.2).2.2][j]?=some v->wr.cell? ⟨bk,off+i*4+j,none⟩=some v:=hcell;have Hmy:=uQ (show cO y=[Value.int .i64 y.1.1,y.2.2,.int .i64 (aj.scan y.1.2).2.1,.int .i64 (aj.scan y.1.2).2.2] from rfl);obtain ⟨MG,MH,hsv⟩:=(bI.o y hym).sl;clear hlt hi hy hym hcell hcm
  go_wp2_with (first
   |((with_reducible refine bC ⟨?_⟩);refine iD (b:=bk) (o:=off+i*4) (cO y) ah hcl underlying189 rfl au ?_)
   |(with_reducible apply eG))
  refine ⟨eU Du hS2 rfl ?_⟩;intro b5 w3 h3;go_wp2_with (with_reducible apply bW);refine ⟨fG (cO y).toArray h3 ah ah ah bU au (by rw [Hmy.o,hsv];rfl) ?_⟩;intro w4 h4;clear h3 hS2 hcl;have e3:w4.cell? ⟨b5,3,none⟩=some (.int .i64 (aj.scan y.1.2).2.2):=h4.cellP aK 3 rfl;have e0:w4.cell? ⟨b5,0,none⟩=some (.int .i64 y.1.1):=h4.cellP aK 0 rfl;by_cases hz:(aj.scan y.1.2).2.2=0;rotate_left
  ·have hb0:((aj.scan y.1.2).2.2==0)=false:=ad3.2 hz;have ig:=uQ (show Seg.jA (-1) (R.take (i+1))=cm by rw [qj.o,abL];rw [Hb.o];simp [hz]);clear hz
   go_wp2_with (first
    |((with_reducible apply EM);refine ⟨?_⟩;refine EN ah ?_;refine iC h4 ah aK underlying189 rfl au ?_))
   go_roundg (ys.length-(i+1))
   case measure=>have:=aS.o;omega
   case rel=>exact ⟨i+1,rfl,aS.o,by rw [ig.o],by first|rfl|go_num,h4.drop⟩
  ·have hb0:((aj.scan y.1.2).2.2==0)=true:=ako.2 hz;have Hbf:=uQ (show Seg.jV y.1.2=false by rw [Hb.o,hz];rfl);have hen:=Sv Hy.o Hl.o (Ro.os lK.out:Ro w0 (pt b5 (.cells (cO y).toArray 189 (0,0))::aC 189 4 (.slice (some ⟨bk,off,none⟩) ys.length lc) (ys.flatMap cO)::dY zs::F) _) h4;clear hz
   go_wp2_with (first
    |((with_reducible refine bC ⟨?_⟩);refine iC h4 ah aK underlying189 rfl au ?_)
    |((with_reducible apply EM);refine ⟨?_⟩;refine EN ah ?_;refine iC h4 ah aK underlying189 rfl au ?_))
   refine hen.mono ?_;rintro e w5 ⟨v,rfl,rfl,h5⟩;clear h4 e3 e0 hen;have e0:w5.cell? ⟨b5,0,none⟩=some (.int .i64 y.1.1):=h5.cellP aK 0 rfl;cases uK:Rep.jK (Seg.gI y.1.2) with
   |false=>
    have ig:=uQ (show Seg.jA (-1) (R.take (i+1))=cm by rw [qj.o,abL];rw [uK];simp);clear uK;go_wp2_with fail
    go_roundg (ys.length-(i+1))
    case measure=>have:=aS.o;omega
    case rel=>exact ⟨i+1,rfl,aS.o,by rw [ig.o],by first|rfl|go_num,h5.drop⟩
   |true=>
    have ig:=uQ (show Seg.jA (-1) (R.take (i+1))=(y.1.1:Int) by rw [qj.o,adU ⟨Hbf.o,uK⟩]);clear uK;go_wp2_with fail
    go_roundg (ys.length-(i+1))
    case measure=>have:=aS.o;omega
    case rel=>exact ⟨i+1,rfl,aS.o,by rw [ig.o],by first|rfl|go_num,h5.drop⟩
theorem aiX (hM:M.Ok K) (hnm:∀ f∈M.list,f.size<=4000000000) (hlen:∀ d∈R,d.2.length<=16777216) (hn:R.length<=65536) (hR:ys.map (·.1)=R) (hok:∀ y∈ys,qI y) (hz:∀ y∈ys,vV y∈zs) (h:Sat w0 w (aC 189 4 (.slice la ys.length lc) (ys.flatMap cO)::dY zs::aI m M::F)) :
  Calls prog 104 #[.slice la ys.length lc,ptr m] w (aN λv w'=>v=.int .i64 (Seg.kT (aA.newest M) R)/\Sat w0 w' (aC 189 4 (.slice la ys.length lc) (ys.flatMap cO)::dY zs::aI m M::F)):=by
 have hS:=h;clear h;have hnw:=H7 hM hnm (hS.sb:Sat w0 w (aI m M::aC 189 4 (.slice la ys.length lc) (ys.flatMap cO)::dY zs::F));have Hlen:=uQ hlen;have HR:=uQ hR;have bI:=uQ hok;have Hz:=uQ hz;have og:=uQ (show ys.length<=65536 by have:=aeO List.length hR;rw [abl]at this;omega);clear hlen hn hR hok hz hM hnm hS;generalize aA.newest M=nw at *
 go_enter func104,ntmps104;go_wp2_with fail;refine hnw.mono ?_;rintro e w1 ⟨v,rfl,rfl,hS⟩;clear hnw;replace hS:Sat w0 w1 (aC 189 4 (.slice la ys.length lc) (ys.flatMap cO)::dY zs::aI m M::F):=hS.sb;go_wp2_with fail
 go_loopg [5,12] ys.length (λg ov iq wr=>∃ i:Nat,g=ys.length-i/\i<=ys.length/\ov=.int .i64 (Seg.kT nw (R.take i))/\iq=.int .i64 i/\Sat w0 wr (aC 189 4 (.slice la ys.length lc) (ys.flatMap cO)::dY zs::aI m M::F))
 case atStart=>exact ⟨0,rfl,ad4 _,rfl,rfl,hS⟩
 case round=>
  obtain ⟨i,rfl,hi,rfl,rfl,hS2⟩:=hrel;clear hS;by_cases hlt:i<ys.length;rotate_left
  ·have c1:¬ (i:Int)<(ys.length:Int):=by omega
   have Hr:=uQ (show R.take i=R by rw [adZ];rw [<-HR.o,abl];omega);clear hlt hi;go_wp2_with fail;go_ret;exact ⟨_,rfl,by rw [Hr.o];rfl,hS2⟩
  have c1:(i:Int)<(ys.length:Int):=oQ;have hwi:IntKind.i64.wrap ((i:Int)+1)=(i:Int)+1:=acO _ (by have:=og.o;omega);obtain ⟨y,hy⟩:∃ y,ys[i]?=some y:=⟨_,aaJ hlt⟩;obtain ⟨bk,off,rfl,hcell⟩:=CG (Sat.rd hS2) hy;have hym:=acr hy;have dP:=uQ (show R.take (i+1)=R.take i++[y.1] by rw [aeN,<-HR.o,ad1,hy];rfl);have Hy:=uQ (bI.o y hym);have Hl:=uQ (P9 (bI.o y hym) (Hlen.o y.1 (by rw [<-HR.o];exact adu.2 ⟨y,hym,rfl⟩)));have lK:=uQ (show Ro w0 (dY zs::aC 189 4 (.slice (some ⟨bk,off,none⟩) ys.length lc) (ys.flatMap cO)::aI m M::F) (aW 36 y.2.2 (iF y.2.1)) from λw hw=>JB (Hz.o y hym) hw);have aS:=uQ hlt;obtain ⟨cm,hcm⟩:∃ cm,cm=Seg.kT nw (R.take i):=⟨_,rfl⟩;have qj:=uQ (show Seg.kT nw (R.take (i+1))=if Rep.jK (Seg.gI y.1.2)=true then max cm (y.1.1:Int) else cm by rw [dP.o,ZJ,hcm]);rw [<-hcm]
  have hcl:∀ j v,[Value.int .i64 y.1.1,y.2.2,.int .i64 (aj.scan y.1.2).2.1,.int .i64 (aj.scan y.1.2).2.2][j]?=some v->wr.cell? ⟨bk,off+i*4+j,none⟩=some v:=hcell;have Hmy:=uQ (show cO y=[Value.int .i64 y.1.1,y.2.2,.int .i64 (aj.scan y.1.2).2.1,.int .i64 (aj.scan y.1.2).2.2] from rfl);obtain ⟨MG,MH,hsv⟩:=(bI.o y hym).sl;clear hlt hi hy hym hcell hcm
  go_wp2_with (first
   |((with_reducible refine bC ⟨?_⟩);refine iD (b:=bk) (o:=off+i*4) (cO y) ah hcl underlying189 rfl au ?_)
   |(with_reducible apply eG))
  refine ⟨eU Du hS2 rfl ?_⟩;intro b5 w3 h3;go_wp2_with (with_reducible apply bW);refine ⟨fG (cO y).toArray h3 ah ah ah bU au (by rw [Hmy.o,hsv];rfl) ?_⟩;intro w4 h4;clear h3 hS2 hcl;have hen:=Sv Hy.o Hl.o (Ro.os lK.out:Ro w0 (pt b5 (.cells (cO y).toArray 189 (0,0))::aC 189 4 (.slice (some ⟨bk,off,none⟩) ys.length lc) (ys.flatMap cO)::dY zs::aI m M::F) _) h4
  go_wp2_with (first
   |((with_reducible refine bC ⟨?_⟩);refine iC h4 ah aK underlying189 rfl au ?_)
   |((with_reducible apply EM);refine ⟨?_⟩;refine EN ah ?_;refine iC h4 ah aK underlying189 rfl au ?_))
  refine hen.mono ?_;rintro e w5 ⟨v,rfl,rfl,h5⟩;clear h4 hen;have e0:w5.cell? ⟨b5,0,none⟩=some (.int .i64 y.1.1):=h5.cellP aK 0 rfl;cases uK:Rep.jK (Seg.gI y.1.2) with
  |false=>
   have ig:=uQ (show Seg.kT nw (R.take (i+1))=cm by rw [qj.o,abL];rw [uK];simp);clear uK;go_wp2_with fail
   go_roundg (ys.length-(i+1))
   case measure=>have:=aS.o;omega
   case rel=>exact ⟨i+1,rfl,aS.o,by rw [ig.o],by first|rfl|go_num,h5.drop⟩
  |true=>
   have ig:=uQ (show Seg.kT nw (R.take (i+1))=max cm (y.1.1:Int) by rw [qj.o,adU uK]);clear uK;go_wp2_with fail
   go_roundg (ys.length-(i+1))
   case measure=>have:=aS.o;omega
   case rel=>exact ⟨i+1,rfl,aS.o,by rw [ig.o],by first|rfl|go_num,h5.drop⟩
end
end Go.Proofs.Y
namespace Go.Seg
open Go.ak
theorem alx {M:ak} (h:(M.size aA.tmp).2=0\/(M.size aA.tmp).2=9):aA.oK M=jY M aA.tmp:=by
 unfold aA.oK jY aA.there;rcases h with h|h
 ·rw [h,adU aG,abL aG]
 ·rw [h,abL aG,adU rfl]
theorem ahx {x:aj.aJ} (h:aj.dV x):x.data.length<=16384:=by
 rcases aj.F6 (aj.JM h.1).1 with ⟨_,q⟩|⟨_,_,q⟩|⟨_,q⟩
 ·exact q
 ·rw [q];exact ad4 _
 ·rw [q];exact ad4 _
end Go.Seg
namespace Go.Proofs.Y
open Go.ak
section
variable {ops:Array Oper}{rest:List Oper}{a:Act}{Q:Exit->Act->World->Prop}{dst:Option Tmp}{pos:String}{after:Array Edge}{s y:Operand}{q:Nat}
theorem anV (hS:Sat w0 w (mrow q Seg.mag::R)) (hv:a.eval s=.slice (some ⟨q,0,none⟩) 8 8) (hy:a.eval y=x) (hx:aW 1 x (aB k) w) (hk:k≠[]) (hl:k.length<=1073741824)
  (hK:∀ b' n' c' w',Sat w0 w' (aY (.slice (some ⟨b',0,none⟩) n' c') (Seg.mag++k)::R)->wpList prog ops Q rest (a.put dst (.slice (some ⟨b',0,none⟩) n' c')) w') :
  wpList prog ops Q (⟨dst,.call { callee:= .builtin .append,args:=#[s,y],argTypes:=#[59,59] },59,pos,after,none⟩::rest) a w:=by
 obtain ⟨i,hi,hz0,hz1,hz2⟩:=uO;have hold:aW 1 (.slice (some ⟨q,0,none⟩) 8 8) (aB Seg.mag) w:=by
  refine ⟨_,8,8,rfl,rfl,λj y hj=>⟨_,rfl,?_⟩⟩;rw [sO];have hjl:j<Seg.mag.length:=by
   have:=(acZ.1 hj).1;rw [aP]at this;exact this
  have h2:=(KL (l:=Seg.mag) hS hjl 0).1;unfold aB at hj;rw [ad1,aaJ hjl]at hj;cases hj;exact h2
 refine ae5 rfl λ_ hK'=>?_;obtain ⟨b',n',c',w',hr,h2⟩:=alR (P:=prog) 59 59 _ i _ underlying59 hi hz0 hz1 ah q 8 8 (xs:=aB Seg.mag) ah (ab1 _) hold hS.drop hx (λe=>hk (List.map_eq_nil_iff.1 e)) (by rw [aP,aP];unfold maxLen;show 8+k.length<=_;omega) (by rw [aP,aP,hz2];show (8+k.length)*1<=_;omega);unfold Oper.wp execOp;simp only [resolve,invoke,builtin,aed,aep,adW,ahS,aes,ah3,hv,hy,hr];refine hK' _ _ (hK b' n' c' w' ?_);unfold aY aB;rw [aef];exact h2
end
theorem aaw (hM:M.Ok K) (hK:K+1<=1099511627776) (s:ByteArray) (h:Sat w0 w (aI m M::F)) :
  Calls prog 106 #[ptr m,.string s] w (aN λv w'=>v=errno (Seg.jY M s).2/\Sat w0 w' (aI m (Seg.jY M s).1::F)):=by
 have hs:=Dc hM h s;have hrm:=yI hM oQ h s;have Hf:=uQ (show Seg.jY M s=if (M.size s).2=9 then (M,0) else M.remove s from rfl);generalize M.size s=r at *
 generalize M.remove s=r2 at *
 obtain ⟨n,e⟩:=r;obtain ⟨M2,e2⟩:=r2;dsimp only at hs hrm Hf;clear hM hK;by_cases h9:e=9
 ·have vC:=uQ (Hf.o.trans (adU h9));have hb:(e==9)=true:=ako.2 h9;clear h9 hrm;go_enter func106,ntmps106;go_wp2_with fail;refine hs.mono ?_;rintro ee w1 ⟨v,rfl,rfl,rfl⟩;clear hs;go_wp2_with fail;go_ret;exact ⟨_,rfl,by rw [vC.o];rfl,by rw [vC.o];exact h⟩
 ·have vC:=uQ (Hf.o.trans (abL h9));have hb:(e==9)=false:=ad3.2 h9;clear h9;go_enter func106,ntmps106;go_wp2_with fail;refine hs.mono ?_;rintro ee w1 ⟨v,rfl,rfl,rfl⟩;clear hs;go_wp2_with fail;refine hrm.mono ?_;rintro ee w2 ⟨v,rfl,rfl,h2⟩;go_wp2_with fail;go_ret;exact ⟨_,rfl,by rw [vC.o];rfl,by rw [vC.o];exact h2⟩
theorem ali (hM:M.Ok K) (hK:K+6<=1099511627776) (ht:(M.size aA.tmp).2=0\/(M.size aA.tmp).2=9) (hy:qI y) (hn:y.1.1<1048576) (hb:y.1.2.length<=16777216) (hro:Ro w0 F (aW 36 y.2.2 (iF y.2.1)))
  (hda:∀ (f:aj.dK) (dv:Value),(f,dv)∈y.2.1->(∃ a n c,dv=.slice a n c/\n=f.e.data.length)/\Ro w0 F (aW 1 dv (aB f.e.data))) (hH:Ro w0 F Half) (h:Sat w0 w (aI m M::F)) :
  Calls prog 105 #[.agg (cO y).toArray,ptr m] w (aN λv w'=>v=errno (Seg.lD M y.1).2/\Sat w0 w' (aI m (Seg.lD M y.1).1::F)):=by
 have hsv:y.2.1.map (·.1.e)=Seg.gI y.1.2:=by rw [<-Seg.Ui,<-hy.PW,ahU];rfl
 have hok:=(Seg.Iu y.1.2).1;have hnl:=(Seg.Iu y.1.2).2.1;have hne:=Seg.TT y.1.2;obtain ⟨⟨n,b⟩,fs,sv⟩:=y;obtain ⟨_,hk,a,c,aie⟩:=hy;obtain rfl:sv=.slice a fs.length c:=aie;dsimp only at hn hb hro hda hsv hok hnl hne;have hfl:fs.length=(Seg.gI b).length:=by rw [<-hsv,abl]
 have Hr:=uQ (show Seg.lD M (n,b)=if Seg.gI b=[] then M.remove (Seg.name (n:Int)) else aA.write M (Seg.name (n:Int)) (Seg.mag++aj.encs (Seg.gI b)) from rfl);show Calls _ _ #[.agg #[.int .i64 n,.slice a fs.length c,.int .i64 (aj.scan b).2.1,.int .i64 (aj.scan b).2.2],ptr m] _ (aN λv w'=>v=errno (Seg.lD M (n,b)).2/\Sat w0 w' (aI m (Seg.lD M (n,b)).1::F));have HM:=uQ hM;have HK:=uQ hK;have Ht:=uQ ht;have Hk:=uQ hk;have lK:=uQ hro;have NT:=uQ hda;have HH:=uQ hH;have Hnl:=uQ (show (Seg.mag++aj.encs (Seg.gI b)).length<=16777224 by have:(Seg.qo b)=Seg.mag++aj.encs (Seg.gI b):=rfl;rw [<-this];omega);have kE:=uQ (show fs.length<=16777216 by omega);have yX:=uQ hsv;have bI:=uQ hok;have AO:=uQ (λ(w:World) (G:List aF) (hw:Sat w0 w G)=>EI (w0:=w0) (F:=G) (n:Int) hw);have AP:=uQ (Seg.H6 (n:Int));clear hM hK ht hn hb hro hda hH hsv hok hnl hne hk;generalize Seg.gI b=es at *
 generalize aj.scan b=sc at *
 generalize Seg.name (n:Int)=nm at *
 obtain ⟨TW,kN,kV⟩:=sc;dsimp only;by_cases h0:fs.length=0
 ·have jw:=uQ (Hr.o.trans (adU (ae9 oQ)));have hz:((fs.length:Int)==0)=true:=by rw [ako];omega
  clear h0 hfl Hr;go_enter func105,ntmps105;go_wp2_with (with_reducible apply fC);refine ⟨fB h ah ah ?_⟩;intro b1 w1 h1;replace h1:Sat w0 w1 (pt b1 (.cells #[.int .i64 n,.slice a fs.length c,.int .i64 kN,.int .i64 kV] 189 (0,0))::aI m M::F):=h1;have e1:w1.cell? ⟨b1,1,none⟩=some (.slice a fs.length c):=h1.cellP aK 1 rfl;have e0:w1.cell? ⟨b1,0,none⟩=some (.int .i64 n):=h1.cellP aK 0 rfl;go_wp2_with fail;refine (AO.o _ _ h1).mono ?_;rintro ee w2 ⟨v,rfl,rfl,h2⟩;have hrm:=yI HM.o yR0 (h2.drop) nm;clear h1 e1 e0;go_wp2_with fail;refine hrm.mono ?_;rintro ee w3 ⟨v,rfl,rfl,h3⟩;go_wp2_with fail;go_ret;exact ⟨_,rfl,by rw [jw.o];rfl,by rw [jw.o];exact h3⟩
 have jw:=uQ (Hr.o.trans (abL (λe=>h0 (by rw [hfl,e];rfl))));have hz:((fs.length:Int)==0)=false:=by rw [ad3];omega
 clear h0 hfl Hr;go_enter func105,ntmps105;go_wp2_with (with_reducible apply fC);refine ⟨fB h ah ah ?_⟩;intro b1 w1 h1;replace h1:Sat w0 w1 (pt b1 (.cells #[.int .i64 n,.slice a fs.length c,.int .i64 kN,.int .i64 kV] 189 (0,0))::aI m M::F):=h1;have e1:w1.cell? ⟨b1,1,none⟩=some (.slice a fs.length c):=h1.cellP aK 1 rfl;have hcv:=Lib.run_convert_bytes_const (P:=prog) w1 59 5 #[.int .u8 72,.int .u8 79,.int .u8 65,.int .u8 82,.int .u8 68,.int .u8 83,.int .u8 69,.int .u8 71] 8 8 underlying59 underlying5;have h2:Sat w0 (w1.alloc (.cells #[.int .u8 72,.int .u8 79,.int .u8 65,.int .u8 82,.int .u8 68,.int .u8 83,.int .u8 69,.int .u8 71] 5 (8,9))) (mrow w1.heap.size Seg.mag::pt b1 (.cells #[.int .i64 n,.slice a fs.length c,.int .i64 kN,.int .i64 kV] 189 (0,0))::aI m M::F):=h1.alloc _;have e2:=h2.cellP aT 1 rfl;simp only [abA,aev,ae0,aeE,Nat.reduceAdd]at hcv
 go_wp2_with fail;clear hcv e1 e2 h1 h
 go_loopg [5,29] fs.length (λg bq iq wr=>∃ i:Nat,g=fs.length-i/\i<=fs.length/\iq=.int .i64 i /\
  ((i=0/\bq=.slice (some ⟨w1.heap.size,0,none⟩) 8 8/\Sat w0 wr (mrow w1.heap.size Seg.mag::pt b1 (.cells #[.int .i64 n,.slice a fs.length c,.int .i64 kN,.int .i64 kV] 189 (0,0))::aI m M::F)) \/
   (i≠0/\Sat w0 wr (aY bq (Seg.mag++aj.encs (es.take i))::pt b1 (.cells #[.int .i64 n,.slice a fs.length c,.int .i64 kN,.int .i64 kV] 189 (0,0))::aI m M::F))))
 case atStart=>exact ⟨0,rfl,ad4 _,rfl,.inl ⟨rfl,rfl,h2⟩⟩
 case round=>
  obtain ⟨i,rfl,hi,rfl,hS⟩:=hrel;clear h2;by_cases hlt:i<fs.length;rotate_left
  ·as_aux_lemma=>
   obtain rfl:i=fs.length:=by omega
   have c1:¬ (fs.length:Int)<(fs.length:Int):=oQ;have hel:es.take fs.length=es:=by rw [<-yX.o,adZ (by rw [abl];exact ab1 _)]
   rcases hS with ⟨h00,_⟩|⟨_,hS⟩
   ·exfalso;rw [h00]at hz;exact absurd hz aG
   rw [hel]at hS;clear hlt hi hel;obtain ⟨ua,un,uc,rfl,_,_⟩:=Sat.rd hS;generalize Seg.mag++aj.encs es=bb at *
   have HX:=uQ (show aA.write M nm bb=(if (Seg.jY M aA.tmp).2=0 then (if ((Seg.jY M aA.tmp).1.create aA.tmp).2=0 then aA.fill ((Seg.jY M aA.tmp).1.create aA.tmp).1 nm bb else (Seg.jY M aA.tmp).1.create aA.tmp) else Seg.jY M aA.tmp) by
    unfold aA.write;rw [Seg.alx Ht.o])
   have ok0:(Seg.jY M aA.tmp).1.Ok (K+1):=by
    unfold Seg.jY;split
    ·exact HM.o.mono oQ
    ·exact HM.o.remove _
   have hrm:=aaw HM.o yR0 aA.tmp (hS.sb:Sat w0 wr (aI m M::aY (.slice ua un uc) bb::pt b1 (.cells #[.int .i64 n,.slice a fs.length c,.int .i64 kN,.int .i64 kV] 189 (0,0))::F));generalize Seg.jY M aA.tmp=r0 at *
   obtain ⟨M0,e0⟩:=r0;dsimp only at hrm ok0 HX;clear hS;go_wp2_with fail;refine hrm.mono ?_;rintro ee w3 ⟨v,rfl,rfl,h3⟩;clear hrm;by_cases c0:e0=0;rotate_left
   ·have hb0:(e0 != 0)=true:=ahV.2 c0;have HF:=uQ (show aA.write M nm bb=(M0,e0) from HX.o.trans (abL c0));clear c0;go_wp2_with fail;go_ret;exact ⟨_,rfl,by rw [jw.o,HF.o];rfl,by rw [jw.o,HF.o];exact h3.sb⟩
   subst c0;have Jc:=uQ (show aA.write M nm bb=(if (M0.create aA.tmp).2=0 then aA.fill (M0.create aA.tmp).1 nm bb else M0.create aA.tmp) from HX.o.trans (adU rfl));have hcr:=zi ok0 yR0 h3 aA.tmp aG;have ok1:=ok0.create aA.tmp;generalize M0.create aA.tmp=r1 at *
   obtain ⟨M1,e1⟩:=r1;dsimp only at hcr ok1 Jc;clear h3 HX;go_wp2_with fail;refine hcr.mono ?_;rintro ee w4 ⟨v,rfl,rfl,h4⟩;clear hcr;by_cases c1:e1=0;rotate_left
   ·have hb1:(e1 != 0)=true:=ahV.2 c1;have HF:=uQ (show aA.write M nm bb=(M1,e1) from Jc.o.trans (abL c1));clear c1;go_wp2_with fail;go_ret;exact ⟨_,rfl,by rw [jw.o,HF.o];rfl,by rw [jw.o,HF.o];exact h4.sb⟩
   subst c1;have HY:=uQ (show aA.write M nm bb=aA.fill M1 nm bb from Jc.o.trans (adU rfl));clear Jc;have hap:=Bg ok1 yR0 h4 aA.tmp bb (Ro.aY _ _);have ok2:=ok1.append aA.tmp bb
   have HE:=uQ (show aA.fill M1 nm bb=(if (M1.append aA.tmp bb).2=0 then
     (if ((M1.append aA.tmp bb).1.sync aA.tmp).2=0 then ((M1.append aA.tmp bb).1.sync aA.tmp).1.rename aA.tmp nm else (M1.append aA.tmp bb).1.sync aA.tmp)
    else if (M1.append aA.tmp bb).2=11 then
     (if ((M1.append aA.tmp bb).1.remove aA.tmp).2=0 then (((M1.append aA.tmp bb).1.remove aA.tmp).1,11) else (M1.append aA.tmp bb).1.remove aA.tmp)
    else M1.append aA.tmp bb) from rfl)
   generalize M1.append aA.tmp bb=r2 at *
   obtain ⟨M2,e2⟩:=r2;dsimp only at hap ok2;clear h4;go_wp2_with fail;refine hap.mono ?_;rintro ee w5 ⟨v,rfl,rfl,h5⟩;clear hap;by_cases c2:e2=0;rotate_left
   ·have hb2:(e2 != 0)=true:=ahV.2 c2;by_cases c3:e2=11
    ·subst c3;have hrm:=yI ok2 yR0 h5 aA.tmp;have HG:=uQ (show aA.write M nm bb=(if (M2.remove aA.tmp).2=0 then ((M2.remove aA.tmp).1,11) else M2.remove aA.tmp) from HY.o.trans (HE.o.trans ((abL c2).trans (adU rfl))));generalize M2.remove aA.tmp=r3 at *
     obtain ⟨M3,e3⟩:=r3;dsimp only at hrm;clear h5 c2 HY HE;go_wp2_with fail;refine hrm.mono ?_;rintro ee w6 ⟨v,rfl,rfl,h6⟩;clear hrm;by_cases c4:e3=0
     ·have hb3:(e3 != 0)=false:=by rw [c4];rfl
      have HF:=uQ (HG.o.trans (adU c4));clear c4;go_wp2_with fail;go_ret;exact ⟨_,rfl,by rw [jw.o,HF.o];rfl,by rw [jw.o,HF.o];exact h6.sb⟩
     ·have hb3:(e3 != 0)=true:=ahV.2 c4;have HF:=uQ (HG.o.trans (abL c4));clear c4;go_wp2_with fail;go_ret;exact ⟨_,rfl,by rw [jw.o,HF.o];rfl,by rw [jw.o,HF.o];exact h6.sb⟩
    ·have hb3:(e2==11)=false:=ad3.2 c3;have HF:=uQ (show aA.write M nm bb=(M2,e2) from HY.o.trans (HE.o.trans ((abL c2).trans (abL c3))));clear c2 c3;go_wp2_with fail;go_ret;exact ⟨_,rfl,by rw [jw.o,HF.o];rfl,by rw [jw.o,HF.o];exact h5.sb⟩
   subst c2;have hsy:=Uk ok2 h5 aA.tmp;have uU:=ok2.sync aA.tmp;have HG:=uQ (show aA.write M nm bb=(if (M2.sync aA.tmp).2=0 then (M2.sync aA.tmp).1.rename aA.tmp nm else M2.sync aA.tmp) from HY.o.trans (HE.o.trans (adU rfl)));generalize M2.sync aA.tmp=r3 at *
   obtain ⟨M3,e3⟩:=r3;dsimp only at hsy uU;clear h5 HY HE;go_wp2_with fail;refine hsy.mono ?_;rintro ee w6 ⟨v,rfl,rfl,h6⟩;clear hsy;by_cases c4:e3=0;rotate_left
   ·have hb3:(e3 != 0)=true:=ahV.2 c4;have HF:=uQ (show aA.write M nm bb=(M3,e3) from HG.o.trans (abL c4));clear c4;go_wp2_with fail;go_ret;exact ⟨_,rfl,by rw [jw.o,HF.o];rfl,by rw [jw.o,HF.o];exact h6.sb⟩
   subst c4;have hre:=LH uU yR0 h6 aA.tmp nm AP.o;have HF:=uQ (show aA.write M nm bb=M3.rename aA.tmp nm from HG.o.trans (adU rfl));have e9:w6.cell? ⟨b1,0,none⟩=some (.int .i64 n):=h6.cellP fE 0 rfl;clear hre;go_wp2_with fail;refine (AO.o _ _ h6).mono ?_;rintro ee w7 ⟨v,rfl,rfl,h7⟩;have hre:=LH uU yR0 h7 aA.tmp nm AP.o;generalize M3.rename aA.tmp nm=r4 at *
   obtain ⟨M4,e4⟩:=r4;dsimp only at hre;clear h6 e9;go_wp2_with fail;refine hre.mono ?_;rintro ee w8 ⟨v,rfl,rfl,h8⟩;clear hre;go_wp2_with fail;go_ret;exact ⟨_,rfl,by rw [jw.o,HF.o];rfl,by rw [jw.o,HF.o];exact h8.sb⟩
  have c1:(i:Int)<(fs.length:Int):=oQ;have hwi:IntKind.i64.wrap ((i:Int)+1)=(i:Int)+1:=acO _ (by have:=kE.o;omega);obtain ⟨⟨f,dv⟩,hq⟩:∃ q,fs[i]?=some q:=⟨_,aaJ hlt⟩;have hqm:=acr hq;obtain ⟨⟨da,dn,dc,rfl,rfl⟩,hdr⟩:=NT.o f dv hqm;have Hdr:=uQ hdr;have rC:=uQ (show f.e.key.length=32 from Hk.o _ hqm);have hqe:es[i]?=some f.e:=by rw [<-yX.o,ad1,hq];rfl
  have hgd:=bI.o _ (acr hqe);have qC:=uQ (show f.e.data.length<=16384 from Seg.ahx hgd);have Hen:=uQ (Seg.XO hgd)
  have dP:=uQ (show aj.encs (es.take (i+1))=aj.encs (es.take i)++(aj.encode f.e).1 by
   rw [aeN,hqe,ahW,Seg.Gf]
   congr 1
   unfold aj.encs;simp)
  have nX:=uQ (show (Seg.mag++aj.encs (es.take i)).length+(aj.encode f.e).1.length<=16777224 by
   have h1:Seg.mag++aj.encs es=(Seg.mag++aj.encs (es.take (i+1)))++aj.encs (es.drop (i+1)):=by
    rw [ad2,<-Seg.Gf,aeX]
   have h2:=aeO List.length h1;rw [dP.o]at h2;simp only [aa7]at h2 ⊢;have h3:=Hnl.o;simp only [aa7]at h3;omega)
  have hrow:∀ w',Sat w0 w' F->∃ bk off,a=some ⟨bk,off,none⟩/\∀ j v,(nP f (.slice da f.e.data.length dc))[j]?=some v->w'.cell? ⟨bk,off+i*36+j,none⟩=some v:=λw' hw=>Qb Hk.o (lK.o w' hw) hq;obtain ⟨bk,off,rfl,hcell⟩:∃ bk off,a=some ⟨bk,off,none⟩/\∀ j v,(nP f (.slice da f.e.data.length dc))[j]?=some v->wr.cell? ⟨bk,off+i*36+j,none⟩=some v:=by
   rcases hS with ⟨_,_,h⟩|⟨_,h⟩
   ·exact hrow wr h.drop.drop.drop
   ·exact hrow wr h.drop.drop.drop
  clear hrow;have J6:(nP f (.slice da f.e.data.length dc)).length=36:=xY _ _ rC.o;have aS:=uQ hlt;clear hq hqm hqe hgd hdr hlt hi;rcases hS with ⟨rfl,rfl,hS⟩|⟨hi0,hS⟩
  ·as_aux_lemma=>
   go_wp2_with (first
    |((with_reducible refine bC ⟨?_⟩);refine iD (b:=bk) (o:=off+0*36) (nP f (.slice da f.e.data.length dc)) ah hcell underlying154 rfl (by rw [J6];kernel_rfl) ?_)
    |(with_reducible apply eG))
   refine ⟨eU Ns hS rfl ?_⟩;intro b14 IV h30;clear hcell hS;go_wp2_with (with_reducible apply bW);refine ⟨fG (jQ f (.slice da f.e.data.length dc)) h30 ah ah (by rw [rH _ _ rC.o];rfl) bU (by rw [rH _ _ rC.o];kernel_rfl) (Gi _ _ _ _) ?_⟩;intro Nb h31;clear h30
   have hent:Nb.rangeAt b14 0 (jd f.e (.slice da f.e.data.length dc)):=λk v hk=>h31.cellP aK (0+k) (by
    rw [aeE];unfold jQ nP;rw [aeh,aek (acZ.1 hk).1];exact hk)
   go_wp2_with ((with_reducible refine bC ⟨?_⟩);refine iD (b:=b14) (o:=0) (jd f.e (.slice da f.e.data.length dc)) ah hent underlying71 rfl (by rw [wF _ _ rC.o];exact yw) ?_);refine (XP f.e rC.o da dc (Ro.os Hdr.o) (Ro.os HH.o) h31 (adT qC.o aG)).mono ?_;rintro ee w32 ⟨v,rfl,bv,rfl,⟨ba,bn,bc,rfl⟩,h32⟩;clear h31 hent;have zC:=Sat.rd h32;have Gl:Sat w0 w32 (mrow w1.heap.size Seg.mag::pt b1 (.cells #[.int .i64 n,.slice (some ⟨bk,off,none⟩) fs.length c,.int .i64 kN,.int .i64 kV] 189 (0,0))::aI m M::F):=h32.sb;clear h32;go_wp2_with (with_reducible apply fZ);refine ⟨anV Gl ah ah zC (λe=>by have:=Hen.o;rw [e]at this;simp at this) (by have:=nX.o;omega) ?_⟩;intro WH WO bc2 w34 x8;clear zC Gl;have aeU:=uQ (show aj.encs (es.take (0+1))=(aj.encode f.e).1 by rw [dP.o];rfl);rw [<-aeU.o]at x8;go_wp2_with fail
   go_roundg (fs.length-(0+1))
   case measure=>have:=aS.o;omega
   case rel=>exact ⟨0+1,rfl,aS.o,by first|rfl|go_num,.inr ⟨by decide,x8⟩⟩
  ·as_aux_lemma=>
   go_wp2_with (first
    |((with_reducible refine bC ⟨?_⟩);refine iD (b:=bk) (o:=off+i*36) (nP f (.slice da f.e.data.length dc)) ah hcell underlying154 rfl (by rw [J6];kernel_rfl) ?_)
    |(with_reducible apply eG))
   refine ⟨eU Ns hS rfl ?_⟩;intro b14 IV h30;clear hcell hS;go_wp2_with (with_reducible apply bW);refine ⟨fG (jQ f (.slice da f.e.data.length dc)) h30 ah ah (by rw [rH _ _ rC.o];rfl) bU (by rw [rH _ _ rC.o];kernel_rfl) (Gi _ _ _ _) ?_⟩;intro Nb h31;clear h30
   have hent:Nb.rangeAt b14 0 (jd f.e (.slice da f.e.data.length dc)):=λk v hk=>h31.cellP aK (0+k) (by
    rw [aeE];unfold jQ nP;rw [aeh,aek (acZ.1 hk).1];exact hk)
   go_wp2_with ((with_reducible refine bC ⟨?_⟩);refine iD (b:=b14) (o:=0) (jd f.e (.slice da f.e.data.length dc)) ah hent underlying71 rfl (by rw [wF _ _ rC.o];exact yw) ?_);refine (XP f.e rC.o da dc (Ro.os Hdr.o) (Ro.os HH.o) h31 (adT qC.o aG)).mono ?_;rintro ee w32 ⟨v,rfl,bv,rfl,⟨ba,bn,bc,rfl⟩,h32⟩;clear h31 hent;have zC:=Sat.rd h32;have Gl:Sat w0 w32 (aY u5 (Seg.mag++aj.encs (es.take i))::pt b1 (.cells #[.int .i64 n,.slice (some ⟨bk,off,none⟩) fs.length c,.int .i64 kN,.int .i64 kV] 189 (0,0))::aI m M::F):=h32.sb;clear h32;go_wp2_with (with_reducible apply fZ);refine ⟨vg Gl ah ah zC (adT nX.o aG) ?_⟩;intro WH WO bc2 w34 x8;clear zC Gl;rw [ad2,<-dP.o]at x8;go_wp2_with fail
   go_roundg (fs.length-(i+1))
   case measure=>have:=aS.o;omega
   case rel=>exact ⟨i+1,rfl,aS.o,by first|rfl|go_num,.inr ⟨by omega,x8⟩⟩
def dB (a:Int):List Value:=[.int .i64 a]
abbrev tY:Int:=0
theorem yu (a:Int):(dB a).length=1:=rfl
theorem zH (a:Int):(dB a).all (·.oneCell')=true:=rfl
theorem yN:kD prog 317=some (.agg (slotL dB ⟨0,aj.zero32,tY⟩).toArray):=by kernel_rfl
theorem akw:tH prog 317=some [(0,1),(1,32),(33,1)]:=by kernel_rfl
section
variable {gn d c:Nat}{s:List (Tab.Slot (Int))}{a:Option Addr}
theorem aaY (hl:0<s.length) (h:Sat w0 w (fV p 315 (.slice a s.length c) n gn::F)) :
  Calls prog 198 #[ptr p] w (aN λv w'=>v=.bool true/\w=w'):=by
 have e0:w.cell? ⟨p,0,none⟩=some (.slice a s.length c):=h.cellAt 0 _ rfl;have c1:(0:Int)<(s.length:Int):=oQ;go_enter func198,ntmps198;go_wp2;go_ret;exact ⟨_,rfl,rfl,rfl⟩
abbrev nC.kP:=@dB
abbrev nC.lG:Nat:=34
abbrev nC.qU:Nat:=1
theorem nC.IJ:type_of% @yu:=@yu
theorem nC.Uz:type_of% @func199:=@func199
theorem nC.UE:type_of% @ntmps199:=@ntmps199
abbrev nC.tV:Nat:=315
abbrev nC.mY:Nat:=317
theorem nC.UG:type_of% @underlying317:=@underlying317
theorem nC.UH:type_of% @yN:=@yN
theorem nC.MP:type_of% @zH:=@zH
open nC in
theorem PS (g:Tab.Good s) (hc:s.length<=1073741824) (hk:k.length=32) (he:Tab.Ends s k d) (h:Sat w0 w (fV p 315 sv n gn::aC 317 34 sv (s.flatMap (slotL dB))::F)) :
  Calls prog 199 #[ptr p,.agg (aB k).toArray] w (aN λv w'=>∃ x,s[Tab.pos k s.length d]?=some x/\v=.tuple #[.int .i64 (Tab.pos k s.length d:Nat),.int .i64 ((d:Int)+1),.bool (decide (x.st=1))] /\
   Sat w0 w' (fV p 315 sv n gn::aC 317 34 sv (s.flatMap (slotL dB))::F)):=Rf
end
def jH (p:Nat) (m:aj.Bs->Option (Int)) (B:Nat):aF:=λh=>∃ (t:Tab.Tb (Int)) (sv:Value),(t.Ok/\t.Is m/\t.n+t.gone<=B)/\stars [fV p 315 sv t.n t.gone,aC 317 34 sv (t.slots.flatMap (slotL dB))] h
section
variable {m:aj.Bs->Option (Int)}{t:Tab.Tb (Int)}
theorem jH.open (h:Sat w0 w (jH p m B::F)):∃ (t:Tab.Tb (Int)) (sv:Value),(t.Ok/\t.Is m/\t.n+t.gone<=B)/\Sat w0 w (fV p 315 sv t.n t.gone::aC 317 34 sv (t.slots.flatMap (slotL dB))::F):=by
 obtain ⟨ha,x,hx,q,r,dd,rfl,⟨t,sv,hin,hp⟩,hq⟩:=h;refine ⟨t,sv,hin,ha,_,hx,?_⟩;show stars ([fV p 315 sv t.n t.gone,aC 317 34 sv (t.slots.flatMap (slotL dB))]++F) _;rw [qx];exact ⟨q,r,dd,rfl,hp,hq⟩
theorem jH.shut (h1:t.Ok) (h2:t.Is m) (h3:t.n+t.gone<=B) (h:Sat w0 w (fV p 315 sv t.n t.gone::aC 317 34 sv (t.slots.flatMap (slotL dB))::F)):Sat w0 w (jH p m B::F):=
 Sat.join (M:=[fV p 315 sv t.n t.gone,aC 317 34 sv (t.slots.flatMap (slotL dB))]) h λ_ hx=>⟨t,sv,⟨h1,h2,h3⟩,hx⟩
theorem ajM (h:Sat w0 w F):Calls prog 154 #[] w (aN λv w'=>∃ p,v=ptr p/\Sat w0 w' (jH p (λ_=>none) 0::F)):=by
 go_enter func154,ntmps154
 go_wp2_with (first
  |((with_reducible refine at_make ⟨?_⟩);refine IX (e:=317) (sz:=34) (dF:=48) (n:=8) au yN h ah ah aG aG ?_;intro bM wM hM)
  |((with_reducible refine fC ⟨?_⟩);refine fB hM ay ay ?_;intro bB wB hB))
 go_ret;refine ⟨_,rfl,bB,rfl,?_⟩;have e:(List.replicate 8 (slotL dB ⟨0,aj.zero32,tY⟩)).flatten=(List.replicate 8 (⟨0,aj.zero32,tY⟩:Tab.Slot (Int))).flatMap (slotL dB):=(Iq 8 _).symm;rw [e]at hB;exact jH.shut (t:=⟨List.replicate 8 ⟨0,aj.zero32,tY⟩,0,0⟩) (Tab.Ry aG rfl) (Tab.Rx rfl 0 0) (ab1 0) hB
end
section
variable {N:Nat}{m:aj.Bs->Option (Int)}{t:Tab.Tb (Int)}
theorem alg (ok:t.Ok) (hN:t.n<=N) (hNb:N<=134217728) (Y4:t.slots.length<=1073741824) (h:Sat w0 w (fV p 315 sv t.n t.gone::aC 317 34 sv (t.slots.flatMap (slotL dB))::F)) :
  Calls prog 200 #[ptr p,.int .i64 N] w (aN λ_ w'=>∃ s' sv',Tab.AY t s' N/\Sat w0 w' (fV p 315 sv' t.n 0::aC 317 34 sv' (s'.flatMap (slotL dB))::F)):=by
 have bI:=uQ ok;have HN:=uQ hN;have HNb:=uQ hNb;have Hlen:=uQ (show ∀ x∈t.slots,(slotL dB x).length=34 from λx hx=>kZ dB x (ok.good.key x hx) 1 (yu _));obtain ⟨la,lc,rfl⟩:=iP Hlen.o (Sat.rd (h.pick aT)) aG;have hw0:IntKind.i64.wrap (2*(N:Int))=2*(N:Int):=acO _ oQ;have aii:wrap64 (2*(N:Int))=2*(N:Int):=ahX _ oQ;clear ok hN;go_enter func200,ntmps200;go_wp2_with fail
 go_loopg [4] (4*N) (λg cq wr=>∃ c:Nat,g=4*N+8-c/\cq=.int .i64 c/\(∃ j,c=2^j/\3<=j)/\8<=c/\(c=8\/c<4*N)/\wr=w)
 case atStart=>exact ⟨8,by omega,rfl,⟨3,rfl,ab1 3⟩,ab1 8,.inl rfl,rfl⟩
 case round=>
  obtain ⟨c,rfl,rfl,⟨j,hj,hj3⟩,hc8,hc,rfl⟩:=hrel;by_cases hlt:c<2*N
  ·have c1:(c:Int)<2*(N:Int):=by omega
   have hw1:IntKind.i64.wrap ((c:Int)*2)=(c:Int)*2:=acO _ oQ;have aik:wrap64 ((c:Int)*2)=(c:Int)*2:=ahX _ oQ;have Hj:=uQ hj;have Oa:=uQ hj3;have aS:=uQ hlt;have Aq:=uQ hc8;clear hj hj3 hlt hc hc8;go_wp2_with fail
   go_roundg (4*N+8-c*2)
   case measure=>have:=aS.o;have:=Aq.o;omega
   case rel=>exact ⟨c*2,rfl,by first|rfl|go_num,⟨j+1,by rw [apt,Hj.o],by have:=Oa.o;omega⟩,by have:=Aq.o;omega,.inr (by have:=aS.o;omega),rfl⟩
  ·have c1:¬ (c:Int)<2*(N:Int):=by omega
   have HC:=uQ (show (∃ j,c=2^j/\3<=j)/\2*N<=c/\8<=c/\(c=8\/c<4*N) from ⟨⟨j,hj,hj3⟩,by omega,hc8,hc⟩);have hcb:c<=1073741824:=oQ;have xG:=uQ hcb;clear hj hj3 hlt hc hc8 hw0 hcb hNb
   go_wp2_with (first
    |((with_reducible refine bC ⟨?_⟩);refine eY h ah bK bG ay au ?_)
    |((with_reducible refine at_make ⟨?_⟩);refine IX (e:=317) (sz:=34) (dF:=48) (n:=c) au yN h ah ah (by have:=xG.o;omega) (by have:=xG.o;omega) ?_;intro bM wM hM)
    |((with_reducible refine bW ⟨?_⟩);refine jM aQ ah ay pQ gZ bG au ah ?_;intro wS hS))
   have e8:(List.replicate c (slotL dB ⟨0,aj.zero32,tY⟩)).flatten=(List.replicate c (⟨0,aj.zero32,tY⟩:Tab.Slot (Int))).flatMap (slotL dB):=(Iq c _).symm;rw [e8]at hS;have hS0:Sat w0 _ (fV p 315 (.slice (some ⟨bM,0,none⟩) c c) t.n 0::aC 317 34 (.slice (some ⟨bM,0,none⟩) c c) ((List.replicate c (⟨0,aj.zero32,tY⟩:Tab.Slot (Int))).flatMap (slotL dB))::aC 317 34 (.slice la t.slots.length lc) (t.slots.flatMap (slotL dB))::F):=hS.sb;clear hS hM h e8 c1;go_wp2_with fail
   go_loopg [31] t.slots.length (λg iq wr=>∃ (i:Nat) (cur:List (Tab.Slot (Int))),g=t.slots.length-i/\i<=t.slots.length/\iq=.int .i64 i/\Tab.Half t.slots cur i/\cur.length=c /\
    Sat w0 wr (fV p 315 (.slice (some ⟨bM,0,none⟩) c c) t.n 0::aC 317 34 (.slice (some ⟨bM,0,none⟩) c c) (cur.flatMap (slotL dB))::aC 317 34 (.slice la t.slots.length lc) (t.slots.flatMap (slotL dB))::F))
   case atStart=>exact ⟨0,_,rfl,ad4 _,rfl,Tab.half_start HC.o.1 aG rfl,afa,hS0⟩
   case round=>
    obtain ⟨i,cur,rfl,hi,rfl,hH,hcl,hS⟩:=hrel;clear hS0;have HH:=uQ hH;have gK:=uQ hcl;by_cases hlt:i<t.slots.length;rotate_left
    ·obtain rfl:i=t.slots.length:=by omega
     have c1:¬ (t.slots.length:Int)<(t.slots.length:Int):=oQ;clear hlt hH hi;go_wp2_with fail
     go_end0
     obtain ⟨q1,q2,q3,q4⟩:=HH.o.done;exact ⟨_,rfl,cur,⟨q1,q2,q3.trans bI.o.n.symm,q4.trans bI.o.n.symm,by rw [gK.o];exact HC.o.2.1,by rw [gK.o];exact HC.o.2.2.1,by rw [gK.o];exact HC.o.2.2.2⟩,_,hS.sb⟩
    have c1:(i:Int)<(t.slots.length:Int):=oQ;have hwi:=qm (i:=i);obtain ⟨x,hx⟩:∃ x,t.slots[i]?=some x:=⟨_,aaJ hlt⟩;have hxm:=acr hx;have hst:=bI.o.good.st x hxm;have Hxk:=uQ (bI.o.good.key x hxm);obtain ⟨bk,off,c',hsv,hcell⟩:=iL Hlen.o (Sat.rd (hS.pick fE)) hx aG;cases hsv;have gB:=Hlen.o x hxm;have Hx:=uQ hx;have aS:=uQ hlt;clear hx hxm hlt hH hi
    go_wp2_with (first
     |((with_reducible refine bC ⟨?_⟩);refine iD (b:=bk) (o:=off+i*34) (slotL dB x) ah hcell underlying317 rfl yN0 ?_)
     |(with_reducible apply eG))
    refine ⟨eU yN hS rfl ?_⟩;intro b7 w7 hS7;go_wp2_with (first|((with_reducible refine bW ⟨?_⟩);refine fG (slotL dB x).toArray hS7 ah ah zC0 bU yK0 (by rw [ad7];exact pX dB x (zH _)) ?_;intro w10 dG)|(with_reducible apply bC));refine ⟨?_⟩;clear hS hS7 hcell;have f0:w10.cell? ⟨b7,0,none⟩=some (.int .i64 x.st):=dG.cellP aK 0 (by rw [aeh];rfl);have f1:w10.rangeAt b7 1 (aB x.key):=Df (dG.pick aK);by_cases h1:x.st=1;rotate_left
    ·have hst1:((x.st:Int)==1)=false:=by rw [ad3];omega
     have H1:=uQ h1;clear h1 f1;go_wp2_with fail
     go_roundg (t.slots.length-(i+1))
     case measure=>have:=aS.o;omega
     case rel=>exact ⟨i+1,cur,rfl,aS.o,by first|rfl|go_num,HH.o.skip Hx.o H1.o,gK.o,dG.sb⟩
    ·have hus:Tab.used cur<cur.length:=by
      have h2:=HH.o.nu;have h3:=Tab.Yr t.slots i;have h4:=bI.o.n;have h5:=HN.o;have h6:=HC.o;rw [gK.o];omega
     obtain ⟨dd,hdd⟩:=Tab.PK (k:=x.key) HH.o.good (Tab.P8 hus);have H1:=uQ h1;have Dy:=uQ hdd;have hst1:((x.st:Int)==1)=true:=by rw [h1];rfl
     have Fv:=uQ (show ∀ y∈cur,(slotL dB y).length=34 from λy hy=>kZ dB y (HH.o.good.key y hy) 1 (yu _));clear h1 hus hdd;go_wp2_with ((with_reducible refine bC ⟨?_⟩);refine iD (b:=b7) (o:=1) (aB x.key) ah f1 underlying34 rfl yQ0 ?_);have hf:=PS HH.o.good (by rw [gK.o];exact xG.o) Hxk.o Dy.o (dG.sb:Sat w0 w10 (fV p 315 (.slice (some ⟨bM,0,none⟩) c c) t.n 0::aC 317 34 (.slice (some ⟨bM,0,none⟩) c c) (cur.flatMap (slotL dB))::pt b7 (.cells (slotL dB x).toArray 317 (0,0))::aC 317 34 (.slice (some ⟨bk,off,none⟩) t.slots.length lc) (t.slots.flatMap (slotL dB))::F));clear dG f0 f1;refine hf.mono ?_;rintro ee jZ ⟨v,rfl,y,hy,rfl,pO⟩;clear hf hy;have hlt2:=Tab.rX (k:=x.key) (d:=dd) HH.o.good.lU;rw [gK.o]at hlt2;have vI:=uQ (Ir (f:=slotL dB) (k:=34) (i:=Tab.pos x.key cur.length dd) (x:=x) Fv.o gB (Tab.rX HH.o.good.lU))
     have FT:=uQ (HH.o.step bI.o.good Hx.o H1.o Dy.o);rw [gK.o]at vI FT;rw [gK.o];have hrl:(cur.flatMap (slotL dB)).length=34*c:=by rw [iK Fv.o,gK.o]
     generalize Tab.pos x.key c dd=P0 at *
     have c2:(0:Int)<=(P0:Int):=oQ;have c3:(P0:Int)<(c:Int):=oQ;go_wp2_with fail;have hSd:=pO.drew;clear pO;refine eF [6,7] (λw'=>w'.cell? ⟨p,0,none⟩=some (.slice (some ⟨bM,0,none⟩) c c)/\w'.rangeAt b7 0 (slotL dB x)) au ?_;have hG:World.cell? _ ⟨p,0,none⟩=some (.slice (some ⟨bM,0,none⟩) c c)/\World.rangeAt _ b7 0 (slotL dB x):=⟨hSd.cellP bK 0 rfl,qp (hSd.pk (A:=pt b7 (.cells (slotL dB x).toArray 317 (0,0))))⟩;refine rP 0 ?_ (y:=bD);refine rP 1 ?_ (y:=iG);refine rP 2 ?_ (y:=dh);refine rt 3 (h:=?_);refine rP 4 ?_ (y:=bD);refine gJ 5 ay au bP (lM (b:=b7) (o:=0) (slotL dB x) ah underlying317 rfl yN0 (λw hw=>hw.2)) aQ gQ ?_;refine rP 6 ?_ (y:=iV);clear hG;refine cZ 7 ay au (λK hK=>?_);refine D8 (vs:=slotL dB x) (P0*34) hSd ay ay rfl (lN bU) (by rw [gB,hrl];omega) yN0 (pX dB x (zH _)) ?_;intro w12 kH;refine hK _ _ (.inl rfl) ?_;clear hK hSd
     refine dX au ?_
     try simp only [jI]
     try go_frame
     rw [<-vI.o]at kH;go_wp2_with fail
     go_roundg (t.slots.length-(i+1))
     case measure=>have:=aS.o;omega
     case rel=>exact ⟨i+1,_,rfl,aS.o,by first|rfl|go_num,FT.o,by rw [ahu];exact gK.o,kH.sb⟩
end
theorem amf (k:aj.Bs) (hk:k.length=32) (v:Int) (w:World) :
  (Instr.build 317 #[(0,.int .i64 1),(1,.agg (aB k).toArray),(2,.int .i64 v)]).run prog w=.ok (.agg (slotL dB ⟨1,k,v⟩).toArray) w:=by
 have hbk:(aB k).toArray.size=32:=by rw [abA,aP,hk]
 refine (apA (P:=prog) [(0,.int .i64 1),(1,.agg (aB k).toArray),(2,.int .i64 v)] akw yN (by
  intro p' hp;simp only [ad9,aiR,apW]at hp;have hzz:(Value.agg (slotL dB (⟨0,aj.zero32,tY⟩:Tab.Slot (Int))).toArray).cells.size=34:=by
   show (slotL dB (⟨0,aj.zero32,tY⟩:Tab.Slot (Int))).toArray.size=34;rw [abA,kZ dB _ aG 1 rfl]
  rw [hzz];rcases hp with rfl|rfl|rfl
  ·exact ⟨0,rfl,by show 0+1<=34;omega⟩
  ·refine ⟨1,?_,?_⟩
   ·show some (1,32)=some (1,(aB k).toArray.size);rw [hbk]
   ·show 1+(aB k).toArray.size<=34;omega
  ·exact ⟨33,rfl,by show 33+1<=34;omega⟩) w).trans ?_
 rw [show (Value.agg (slotL dB (⟨0,aj.zero32,tY⟩:Tab.Slot (Int))).toArray).cells=(slotL dB (⟨0,aj.zero32,tY⟩:Tab.Slot (Int))).toArray from rfl];have hp:=SI dB ⟨0,aj.zero32,tY⟩ k v aG hk rfl 1 rfl;replace hp:eH (eH (eH (slotL dB (⟨0,aj.zero32,tY⟩:Tab.Slot Int)).toArray 0 [.int .i64 1]) 1 (aB k)) 33 (dB v)=(slotL dB ⟨1,k,v⟩).toArray:=hp;exact aeO (λz=>Result.ok (Value.agg z) w) hp
section
variable {m:aj.Bs->Option (Int)}
theorem akI (hB:B<=134217000) (hk:k.length=32) (v:Int) (h:Sat w0 w (jH p m B::F)) :
  Calls prog 155 #[ptr p,.agg (aB k).toArray,.int .i64 v] w (aN λ_ w'=>Sat w0 w' (jH p (Tab.put m k v) (B+1)::F)):=by
 obtain ⟨t,sv,⟨ok,is,hb⟩,hR⟩:=jH.open h;obtain ⟨d,he⟩:=ok.ends k;have hsz:t.slots.length<=1073741824:=by have:=ok.size;omega
 have Hlen:=uQ (show ∀ x∈t.slots,(slotL dB x).length=34 from λx hx=>kZ dB x (ok.good.key x hx) 1 (yu _));obtain ⟨la,lc,rfl⟩:=iP Hlen.o (Sat.rd (hR.pick aT)) aG;have hrl:0<(t.slots.flatMap (slotL dB)).length:=by rw [iK Hlen.o];have:=ok.good.lU;omega
 obtain ⟨bk,rfl⟩:=Ll (hR.pick aT) hrl;have Hk:=uQ hk;have bI:=uQ ok;have kF:=uQ is;have Hb:=uQ hb;have He:=uQ he;have iQ:=uQ hsz;have HB:=uQ hB;have lJ:=uQ ok.good.lU;have Ap:=uQ (show (aB k).length=32 by rw [aP,hk]);clear h hk ok is hb he hsz hB hrl;go_enter func155,ntmps155;go_wp2_with (with_reducible apply fC);refine ⟨fB hR ay ay ?_⟩;intro b4 w4 hS4;have hA:Sat w0 w4 (fV p 315 (.slice (some ⟨bk,0,none⟩) t.slots.length lc) t.n t.gone::aC 317 34 (.slice (some ⟨bk,0,none⟩) t.slots.length lc) (t.slots.flatMap (slotL dB))::pt b4 (.cells (aB k).toArray 34 (0,0))::F):=hS4.sb;clear hR hS4;go_wp2_with fail;refine (aaY lJ.o hA).mono ?_;rintro ee w7 ⟨v',rfl,rfl,rfl⟩;go_wp2_with ((with_reducible refine bC ⟨?_⟩);refine iC hA ah (aU (aU (aK (A:=pt b4 (.cells (aB k).toArray 34 (0,0)))))) underlying34 rfl (by rw [abA,Ap.o];kernel_rfl) ?_)
 have hf:=PS bI.o.good iQ.o Hk.o He.o hA;clear hA;refine hf.mono ?_;rintro ee w8 ⟨v',rfl,x,hx,rfl,kJ⟩;clear hf;have hlt:=Tab.rX (k:=k) (d:=d) lJ.o;by_cases h1:x.st=1
 ·have hd:decide (x.st=1)=true:=aem h1;have hxm:=acr hx;have wz:=uQ (LU (f:=slotL dB) (k:=34) (o:=33) (x':=⟨x.st,x.key,v⟩) (vs:=dB v) Hlen.o hx (acI dB x v (bI.o.good.key x hxm) rfl) (by show 33+1<=34;decide));have nZ:=uQ (Tab.abg bI.o He.o hx h1 v);have Aw:=uQ (Tab.Kz kF.o (Tab.SH bI.o.good He.o hx h1 v).2 t.n t.gone);have hrl:(t.slots.flatMap (slotL dB)).length=34*t.slots.length:=iK Hlen.o;clear hx hxm h1;generalize Tab.pos k t.slots.length d=P0 at *
  have c0:(0:Int)<=(P0:Int):=oQ;have c1:(P0:Int)<(t.slots.length:Int):=oQ;have e0:w8.cell? ⟨p,0,none⟩=some (.slice (some ⟨bk,0,none⟩) t.slots.length lc):=kJ.cellP bK 0 rfl;go_wp2_with (with_reducible apply bW);refine ⟨an9 (vs:=dB v) (P0*34+33) kJ ah ah rfl (lN bU) (by rw [hrl];show P0*34+33+1<=_;omega) au ah ?_⟩;intro w12 kH;rw [<-wz.o]at kH;go_wp2_with fail
  go_end0
  exact ⟨_,rfl,jH.shut (sv:= .slice (some ⟨bk,0,none⟩) t.slots.length lc) nZ.o Aw.o (apG Hb.o) (kH.sb)⟩
 have hd:decide (x.st=1)=false:=aea h1;have hb4:=Hb.o;have hB4:=HB.o;have GL:=iQ.o;obtain ⟨hA1,hA2,hA3,Gq,Gm,Gn,Gp,Gs,Gt⟩:=adI t.n t.gone t.slots.length oQ GL;have Hx:=uQ hx;have H1:=uQ h1;clear hx h1 hb4 hB4 GL;go_wp2_with fail;have hSd:=kJ.drew;clear kJ;have e0:World.cell? _ ⟨p,0,none⟩=some (.slice (some ⟨bk,0,none⟩) t.slots.length lc):=hSd.cellP bK 0 rfl;have e1:World.cell? _ ⟨p,1,none⟩=some (.int .i64 t.n):=hSd.cellP bK 1 rfl;have e2:World.cell? _ ⟨p,2,none⟩=some (.int .i64 t.gone):=hSd.cellP bK 2 rfl
 go_region
 have hcmp:3*t.slots.length<4*(t.n+t.gone+1)\/4*(t.n+t.gone+1)<=3*t.slots.length:=oQ;rcases hcmp with hcmp|hcmp
 focus
  have hci:(3:Int)*(t.slots.length:Int)<4*((t.n:Int)+(t.gone:Int)+1):=oQ;have hrn:=alg (N:=t.n+1) bI.o (aiL _) (by have:=Hb.o;have:=HB.o;omega) iQ.o hSd;rw [show (((t.n+1:Nat)):Int)=(t.n:Int)+1 by omega]at hrn;clear hSd e0 e2;go_wp2_with fail;refine hrn.mono ?_;rintro ee w9 ⟨v',rfl,s',sv',yg,iU⟩;clear hrn e1 hci hcmp;have hok1:=yg.ok;have BQ:=yg.is kF.o t.n 0;have BU:4*((⟨s',t.n,0⟩:Tab.Tb (Int)).n+(⟨s',t.n,0⟩:Tab.Tb (Int)).gone+1)<=3*(⟨s',t.n,0⟩:Tab.Tb (Int)).slots.length:=by have:=yg.lo;simp only;omega
  have hb1:(⟨s',t.n,0⟩:Tab.Tb (Int)).n+(⟨s',t.n,0⟩:Tab.Tb (Int)).gone<=B:=by have:=Hb.o;simp only;omega
  have dG:Sat w0 w9 (fV p 315 sv' (⟨s',t.n,0⟩:Tab.Tb (Int)).n (⟨s',t.n,0⟩:Tab.Tb (Int)).gone::aC 317 34 sv' ((⟨s',t.n,0⟩:Tab.Tb (Int)).slots.flatMap (slotL dB))::pt b4 (.cells (aB k).toArray 34 (0,0))::F):=iU;clear iU yg hA1 hA2 hA3 Gq Gm Gn Gp Gs Gt;generalize (⟨s',t.n,0⟩:Tab.Tb (Int))=t1 at hok1 BQ BU hb1 dG;have xJ:=uQ (show ∀ x∈t1.slots,(slotL dB x).length=34 from λx hx=>kZ dB x (hok1.good.key x hx) 1 (yu _));obtain ⟨QS,yA,rfl⟩:=iP xJ.o (Sat.rd (dG.pick aT)) aG;have nY:=uQ hok1;have xI:=uQ BQ;have AB:=uQ BU;have Hb1:=uQ hb1;obtain ⟨d1,he1⟩:=hok1.ends k;have o8:=uQ he1;have hno:m k=none:=by
   obtain ⟨_,q2⟩:=kF.o.some bI.o He.o Hx.o;exact q2 H1.o
  have hsz1:t1.slots.length<=1073741824:=by have:=hok1.size;have:=HB.o;omega
  clear hok1 BQ BU hb1 he1;go_wp2_with ((with_reducible refine bC ⟨?_⟩);refine iC dG ah (aU (aU (aK (A:=pt b4 (.cells (aB k).toArray 34 (0,0)))))) underlying34 rfl (by rw [abA,Ap.o];kernel_rfl) ?_);have hf:=PS nY.o.good hsz1 Hk.o o8.o dG;clear dG hsz1;refine hf.mono ?_;rintro ee w8b ⟨v',rfl,x1,hx1,rfl,hT⟩;have uz:=uQ hx1
  have xC:=uQ (show x1.st≠1 from λh=>by
   have:=(xI.o.some nY.o o8.o hx1).1 h;rw [hno]at this;cases this)
  clear hf hx1 hno Hx H1 He bI kF Hlen lJ Hb iQ hlt hd;go_wp2_with fail
 rotate_left
 focus
  have hci:¬ (3:Int)*(t.slots.length:Int)<4*((t.n:Int)+(t.gone:Int)+1):=oQ;have AB:=uQ hcmp;clear e0 e1 e2 hcmp;go_wp2_with fail;clear hci hA1 hA2 hA3 Gq Gm Gn Gp Gs Gt hlt hd lJ iQ;obtain ⟨t1,rfl⟩:∃ y,y=t:=⟨t,rfl⟩;obtain ⟨x1,rfl⟩:∃ y,y=x:=⟨x,rfl⟩;obtain ⟨d1,rfl⟩:∃ y,y=d:=⟨d,rfl⟩;obtain ⟨QS,GH⟩:∃ y:Option Addr,y=some ⟨bk,0,none⟩:=⟨_,rfl⟩;obtain ⟨yA,rfl⟩:∃ y,y=lc:=⟨lc,rfl⟩;rw [<-GH]at hSd;have hT:=hSd;have nY:=uQ bI.o;have xI:=uQ kF.o;have Hb1:=uQ Hb.o;have o8:=uQ He.o;have uz:=uQ Hx.o;have xC:=uQ H1.o;have xJ:=uQ Hlen.o;clear hSd bI kF Hb He Hx H1 Hlen GH
 all_goals
  have hrl:(t1.slots.flatMap (slotL dB)).length=34*t1.slots.length:=iK xJ.o;obtain ⟨bk1,rfl⟩:=Ll (hT.pick aT) (by rw [hrl];have:=nY.o.good.lU;omega);have wz:=uQ (Ir (f:=slotL dB) (k:=34) (i:=Tab.pos k t1.slots.length d1) (x:=⟨1,k,v⟩) xJ.o (kZ dB _ Hk.o 1 rfl) (Tab.rX nY.o.good.lU));have nZ:=uQ (Tab.abe nY.o AB.o o8.o uz.o xC.o Hk.o v);have Aw:=uQ (Tab.Kz xI.o (Tab.Lr nY.o.good o8.o uz.o xC.o Hk.o v).2 (t1.n+1) t1.gone);have hlt1:=Tab.rX (k:=k) (d:=d1) nY.o.good.lU;have hls:=kZ dB (⟨1,k,v⟩:Tab.Slot (Int)) Hk.o 1 rfl;have hwn:IntKind.i64.wrap ((t1.n:Int)+1)=(t1.n:Int)+1:=acO _ (by have:=Hb1.o;have:=HB.o;omega);clear uz xC o8 nY xI AB;generalize Tab.pos k t1.slots.length d1=P1 at *
  have c0:(0:Int)<=(P1:Int):=oQ;have c1:(P1:Int)<(t1.slots.length:Int):=oQ;have hSd:=hT.drew;clear hT;refine eF [8,9] (λw'=>w'.cell? ⟨p,0,none⟩=some (.slice (some ⟨bk1,0,none⟩) t1.slots.length yA)/\w'.rangeAt b4 0 (aB k)) au ?_;have hG:World.cell? _ ⟨p,0,none⟩=some (.slice (some ⟨bk1,0,none⟩) t1.slots.length yA)/\World.rangeAt _ b4 0 (aB k):=⟨hSd.cellP bK 0 rfl,qp (hSd.pk (A:=pt b4 (.cells (aB k).toArray 34 (0,0))))⟩;refine rP 0 ?_ (y:=bD);refine rP 1 ?_ (y:=iG);refine rP 2 ?_ (y:=dh);refine rt 3 (h:=?_);refine rP 4 ?_ (y:=bD);refine gJ 5 ay au bP (lM (b:=b4) (o:=0) (aB k) ah underlying34 rfl (by rw [Ap.o];kernel_rfl) (λw hw=>hw.2)) aQ gQ ?_;refine rP 6 ?_ (y:=bD);refine rP 7 ?_ (y:=(I5 ay ay ay (λw=>amf k Hk.o v w)));refine rP 8 ?_ (y:=iV);clear hG;refine cZ 9 ay au (λK hK=>?_)
  refine D8 (vs:=slotL dB ⟨1,k,v⟩) (P1*34) hSd ay ay rfl (lN bU) (by rw [hrl,hls];omega) (by rw [hls];kernel_rfl) (pX dB _ ah) ?_;intro w12 kH;refine hK _ _ (.inl rfl) ?_;clear hK hSd;refine dX au ?_
  try simp only [jI]
  try go_frame
  rw [<-wz.o]at kH
  go_wp2_with (first
   |((with_reducible refine bC ⟨?_⟩);refine eY kH ah bK bG ay au ?_)
   |((with_reducible refine bW ⟨?_⟩);refine jM aQ ah ay pQ gZ bG au ah ?_;intro wS hS))
  go_end0
  exact ⟨_,rfl,jH.shut (sv:= .slice (some ⟨bk1,0,none⟩) t1.slots.length yA) nZ.o Aw.o (by have:=Hb1.o;simp only;omega) (hS.sb)⟩
end
theorem nC.Ux:type_of% @func240:=@func240
theorem nC.Uy:type_of% @ntmps240:=@ntmps240
open nC in
theorem Xe (x y:Tab.Slot (Int)) (hx:x.key.length=32) (hy:y.key.length=32) (W:World) :
  Calls prog 240 #[.agg (slotL dB x).toArray,.agg (slotL dB y).toArray] W λe w'=>e=.returned (.int .i64 (Lib.compareBytes x.key y.key))/\∃ q os',w'=Sort.grow (W.drewN q) os':=Rh
open Go.Sort
abbrev V6:Type:={ x:Tab.Slot (Int) // x.key.length=32 }
instance:Inhabited V6:=⟨⟨⟨0,aj.zero32,0⟩,rfl⟩⟩
theorem nC.MV:type_of% @Tryz.sortI:=@Tryz.sortI
abbrev nC.EP:Nat:=240
abbrev nC.qV:=@V6
theorem nC.UA:type_of% @Tryz.isAgg317:=@Tryz.isAgg317
theorem nC.UC:type_of% @Tryz.sizeOf317:=@Tryz.sizeOf317
theorem nC.UD:type_of% @Xe:=@Xe
abbrev nC.MW:Nat:=239
open nC in
theorem amM (l:List (Tab.Slot (Int))) (hk:∀ x∈l,x.key.length=32) (hn:l.length<=1073741824) (h:Sat w0 w (aC 317 34 v (l.flatMap (slotL dB))::F)) :
  Calls prog 239 #[v,.func (.func 240) #[] #[]] w (aN λ_ w'=>∃ l':List (Tab.Slot (Int)),(l'.Perm l/\l'.Pairwise λa b=>¬ b.key<a.key)/\Sat w0 w' (aC 317 34 v (l'.flatMap (slotL dB))::F)):=Ri
open Go.ak
section
variable {m:aj.Bs->Option (Int)}{t:Tab.Tb (Int)}
theorem abP (hB:B<=13000000) (h:Sat w0 w (jH p m B::F)) :
  Calls prog 201 #[ptr p] w (aN λv w'=>∃ l:List (Tab.Slot (Int)),(Tab.Lists m (l.map λx=>(x.key,x.val))/\(∀ x∈l,x.st=1/\x.key.length=32)/\l.length<=B)/\Sat w0 w' (aC 317 34 v (l.flatMap (slotL dB))::jH p m B::F)):=by
 obtain ⟨t,sv,⟨ok,is,hb⟩,hR⟩:=jH.open h;have hsz:t.slots.length<=56000000:=by have:=ok.size;omega
 have Hlen:=uQ (show ∀ x∈t.slots,(slotL dB x).length=34 from λx hx=>kZ dB x (ok.good.key x hx) 1 (yu _));obtain ⟨la,lc,rfl⟩:=iP Hlen.o (Sat.rd (hR.pick aT)) aG;have bI:=uQ ok;have kF:=uQ is;have Hb:=uQ hb;have iQ:=uQ hsz;have lJ:=uQ ok.good.lU;clear h ok is hb hB;have hS0:Sat w0 w (aC 317 34 (.slice none 0 0) []::fV p 315 (.slice la t.slots.length lc) t.n t.gone::aC 317 34 (.slice la t.slots.length lc) (t.slots.flatMap (slotL dB))::F):=Sat.dO.2 hR;clear hR;go_enter func201,ntmps201;go_wp2_with fail;refine (aaY lJ.o (hS0.pick aT)).mono ?_;rintro ee w7 ⟨v,rfl,rfl,rfl⟩;go_wp2_with ((with_reducible refine bC ⟨?_⟩);refine eY hS0 ah bK bG ay au ?_)
 go_loopg [3,14] t.slots.length (λg oq iq wr=>∃ (i:Nat),g=t.slots.length-i/\i<=t.slots.length/\iq=.int .i64 i /\
  Sat w0 wr (aC 317 34 oq (((t.slots.take i).filter λx=>decide (x.st=1)).flatMap (slotL dB))::fV p 315 (.slice la t.slots.length lc) t.n t.gone::aC 317 34 (.slice la t.slots.length lc) (t.slots.flatMap (slotL dB))::F))
 case atStart=>exact ⟨0,rfl,ad4 _,rfl,hS0⟩
 case round=>
  obtain ⟨i,rfl,hi,rfl,hS⟩:=hrel;clear hS0;by_cases hlt:i<t.slots.length;rotate_left
  ·obtain rfl:i=t.slots.length:=by omega
   have c1:¬ (t.slots.length:Int)<(t.slots.length:Int):=oQ;rw [aeH]at hS;have hfk:∀ x∈t.slots.filter λx=>decide (x.st=1),x.key.length=32:=λx hx=>bI.o.good.key x (aex.1 hx).1;have hs:=amM (t.slots.filter λx=>decide (x.st=1)) hfk (adT (aiK _ _) (adT hsz aG)) hS;clear hlt hi hS hfk;go_wp2_with fail;refine hs.mono ?_;rintro ee w8 ⟨v,rfl,l,⟨h1,h2⟩,kJ⟩;clear hs;have Hl:=uQ (Tab.KG bI.o.good kF.o h1 h2)
   have Hll:=uQ (show l.length<=B from by
    rw [h1.length_eq,<-apk];have e:t.slots.countP (λx=>decide (x.st=1))=Tab.kS t.slots:=by
     unfold Tab.kS;refine List.countP_congr λx _=>?_;simp
    have:=bI.o.n;have:=Hb.o;omega)
   clear h1 h2;go_wp2_with fail;go_ret;exact ⟨_,rfl,l,⟨Hl.o.1,Hl.o.2,Hll.o⟩,Sat.SG (jH.shut bI.o kF.o Hb.o (kJ.sb))⟩
  have c1:(i:Int)<(t.slots.length:Int):=oQ;have hwi:=qm (i:=i);obtain ⟨x,hx⟩:∃ x,t.slots[i]?=some x:=⟨_,aaJ hlt⟩;have hxm:=acr hx;have hst:=bI.o.good.st x hxm;have Hxk:=uQ (bI.o.good.key x hxm);obtain ⟨bk,off,c',hsv,hcell⟩:=iL Hlen.o (Sat.rd (hS.pick fE)) hx aG;cases hsv;have gB:=Hlen.o x hxm;have htk:(t.slots.take (i+1)).filter (λx=>decide (x.st=1))=(t.slots.take i).filter (λx=>decide (x.st=1))++[x].filter λx=>decide (x.st=1):=by
   rw [aeN,hx,ahW,anP]
  have dP:=uQ htk;have aS:=uQ hlt;have BX:(((t.slots.take i).filter λx=>decide (x.st=1)).flatMap (slotL dB)).length<=2147483648:=by
   rw [iK λy hy=>Hlen.o y (ae2 (aex.1 hy).1)];have h1:=aiK (λx=>decide (x.st=1)) (t.slots.take i);have h2:=aoM i t.slots;have h3:=iQ.o;omega
  clear hx hxm hlt hi htk
  go_wp2_with (first
   |((with_reducible refine bC ⟨?_⟩);refine iD (b:=bk) (o:=off+i*34) (slotL dB x) ah hcell underlying317 rfl yN0 ?_)
   |(with_reducible apply eG))
  refine ⟨eU yN hS rfl ?_⟩;intro b7 w7 hS7;go_wp2_with (first|((with_reducible refine bW ⟨?_⟩);refine fG (slotL dB x).toArray hS7 ah ah zC0 bU yK0 (by rw [ad7];exact pX dB x (zH _)) ?_;intro w10 dG)|(with_reducible apply bC));refine ⟨?_⟩;clear hS hS7 hcell;have f0:w10.cell? ⟨b7,0,none⟩=some (.int .i64 x.st):=dG.cellP aK 0 (by rw [aeh];rfl);by_cases h1:x.st=1;rotate_left
  ·have hst1:((x.st:Int)==1)=false:=by rw [ad3];omega
   have e9:(t.slots.take (i+1)).filter (λx=>decide (x.st=1))=(t.slots.take i).filter (λx=>decide (x.st=1)):=by
    rw [dP.o,apl (by rw [aea h1];decide),apj,aei]
   have E9:=uQ e9;clear h1 e9;go_wp2_with fail
   go_roundg (t.slots.length-(i+1))
   case measure=>have:=aS.o;omega
   case rel=>exact ⟨i+1,rfl,aS.o,by first|rfl|go_num,by rw [E9.o];exact dG.sb⟩
  ·have hst1:((x.st:Int)==1)=true:=by rw [h1];rfl
   have e9:((t.slots.take (i+1)).filter (λx=>decide (x.st=1))).flatMap (slotL dB)=((t.slots.take i).filter (λx=>decide (x.st=1))).flatMap (slotL dB)++slotL dB x:=by
    rw [dP.o,apm (by rw [aem h1]),apj,aeB,aen,aiq,aei]
   have E9:=uQ e9;clear h1 e9
   go_wp2_with (first
    |((with_reducible refine bC ⟨?_⟩);refine iC dG ah bK underlying317 rfl yK0 ?_)
    |(with_reducible apply jh))
   refine ⟨jg (e:=317) (sz:=34) (dF:=48) au dG ah (cs:=(slotL dB x).toArray) rfl (by rw [abA,gB]) aG ?_⟩;intro bN wN hN;go_wp2_with (with_reducible apply fZ);refine ⟨jF 317 34 48 au hN ah ah bK aK (by rw [abA,gB]) (ab1 1) (by rw [ad7];exact pX dB x (zH _)) BX (by rw [abA,gB];decide) aG (by rw [ad7]) ?_⟩;intro bA nA cA wA hA;go_wp2_with fail;rw [<-E9.o]at hA
   go_roundg (t.slots.length-(i+1))
   case measure=>have:=aS.o;omega
   case rel=>exact ⟨i+1,rfl,aS.o,by first|rfl|go_num,hA.sb⟩
end
section
variable {m:aj.Bs->Option Int}
theorem dN.ade:type_of% @abP:=@abP
theorem dN.adf:type_of% @func156:=@func156
theorem dN.adg:type_of% @ntmps156:=@ntmps156
abbrev dN.Ae:=@dB
abbrev dN.Af:Nat:=34
abbrev dN.IK:Nat:=1
theorem dN.adh:type_of% @yu:=@yu
abbrev dN.ES:Nat:=317
abbrev dN.UF:=@jH
theorem dN.adi:type_of% @underlying317:=@underlying317
theorem dN.adk:type_of% @yN:=@yN
theorem dN.adl:type_of% @zH:=@zH
open dN in
theorem aiV (hB:B<=13000000) (h:Sat w0 w (jH p m B::F)) :
  Calls prog 156 #[ptr p] w (aN λv w'=>∃ kv:List (aj.Bs×Int),(Tab.Lists m kv/\(∀ q∈kv,q.1.length=32)/\kv.length<=B)/\Sat w0 w' (aC 34 32 v (kv.flatMap λq=>aB q.1)::jH p m B::F)):=aah
end
end Go.Proofs.Y
namespace Go.Seg
open Go.ak
open Go.aj (Bs aJ encs dV gy)
open Go.Rep
section
variable {K r E B n:Nat}{L:Log}{M M':ak}{D:List (Nat×List aJ)}{N:Int}{us:List Use}{pl:List (Bs×aZ)}{b1 b2:Bs}
theorem jy.hf (h:jy K r E B n L M D) (hnm:M.now.length<=480) (h1:0<=N) (h2:N<1048576) (hb1:b1=aO.book Xx.sum aO.uP true (pl.map jm)) (hb2:b2=aO.book Xx.sum aO.uS false (us.map jr))
  (hr:M.used+b1.length+b2.length<=r):(aA.save M N b1 b2).2=0/\HF (aA.save M N b1 b2).1 N pl us/\(aA.save M N b1 b2).1.now.length<=M.now.length+2/\(aA.save M N b1 b2).1.used<=M.used+b1.length+b2.length:=by
 have s:=aA.acv (n:=N) (b1:=b1) (b2:=b2) h.hd.keeps.calm h.tmp hnm h1 h2;have hz:=s.room hr;have hd:=s.done.resolve_right oQ;refine ⟨hz,⟨by rw [<-hb1];exact hd.2.1,by rw [<-hb2];exact hd.2.2,λp hp hn=>?_⟩,s.len,s.used⟩;have:=s.gone hz p hp;unfold aA.other at this;rw [hn]at this;simpa using this
theorem ajS (h:∀ p∈M.now,∃ k:Nat,k<=20/\p.1=name (k:Int)):NF M:=λp hp=>by
 obtain ⟨k,_,e⟩:=h p hp;rw [e,aA.Ic]
theorem amK (h:∀ p∈M.now,p.1.size<=24) (g:aA.Grown M M'):∀ p∈M'.now,p.1.size<=24:=λp hp=>by
 rcases g p hp with q|⟨k,q⟩
 ·exact h p q
 ·rw [q];exact aay k
theorem nK.small {i c:Nat} (h:nK i c M):∀ p∈M.now,p.1.size<=24:=λp hp=>by
 obtain ⟨k,_,e⟩:=h.names p hp;rw [e];exact aay _
end
end Go.Seg
namespace Go.Proofs.Y
open Go.ak
section
variable {o:aj.Bs->Option aj.Bs}
def OG (w0:World) (p m n:Nat) (L:Seg.Log) (M:ak) (D:List (Nat×List aj.aJ)) (F:List aF) (v:Value) (w:World):Prop:=
 ∃ (ps pi:Nat) (uv tv:Value) (x:List (aj.Bs×Rep.dU)×Nat),v=.tuple #[ptr ps,.agg (dW Rep.dI.zero),errno 0]/\(∃ a c,tv=.slice a 0 c)/\(Tab.Lists (Rep.ledger (Seg.iH D)) x.1/\(∀ q∈x.1,q.1.length=32)/\x.2<=n/\x.1.length<=n) /\
  Sat w0 w (bZ ps (Seg.dw D) pi uv tv::bf pi (Tab.mapOf (Rep.puts x.1)) x.2::aC 205 3 uv (((Seg.lQ D).map (Rep.upd x.1)).flatMap bJ)::aV p m L::aI m M::F)
theorem alN (hR:Seg.jy K r0 E B n L M D) (hn:n<=1000) (he:Seg.vk D) (hH:Ro w0 F Half) (h:Sat w0 w (aV p m L::aI m M::F)) :
  Calls prog 102 #[ptr p] w (aN λv w'=>OG w0 p m n L M D F v w'):=by
 obtain ⟨_,q2,q3⟩:=hR.hd.last he;refine (acd hR.hd.keeps.log hR.hd.keeps.calm.ok hH (adT hR.iK oQ) hR.TA h).mono ?_;rintro e w' ⟨v,rfl,ho⟩;unfold AZ at ho;rw [show Rep.run (dD L M) L.aH=.inr L.aH.length from q2]at ho;obtain ⟨ps,pi,uv,tv,av,kv,rfl,⟨k1,k2,k3⟩,⟨⟨a,c,rfl⟩,_⟩,hS⟩:=ho;rw [aeH]at k1 k3 hS;rw [show Rep.rowsOf (dD L M) L.aH=Seg.iH D from hR.hd.rows]at k1;rw [q3,show Rep.nT (dD L M) L.aH=Seg.lQ D from hR.hd.uses,aph]at hS;have hl:=adT k3 hR.iK;exact ⟨_,rfl,ps,pi,uv,_,(kv,kv.length),rfl,⟨a,c,rfl⟩,⟨k1,k2,hl,hl⟩,hS.sb⟩
end
end Go.Proofs.Y
namespace Go.Rep
open Go.aj (Bs)
structure OE where
 kind:Int
 key:Bs
 data:Bs
 n:Int
 m:Int
 l:List Int
def OE.cut (c:OE):OE:=⟨c.kind,c.key,c.data.take 200,c.n,c.m,c.l.take 60⟩
end Go.Rep
namespace Go.Proofs.Y
open Go.ak
theorem akN (l1 l2:List Value) (x y:Value){i:Nat} (hi:l1.length=i):eH (l1++x::l2).toArray i [y]=(l1++y::l2).toArray:=by
 subst hi;apply rY;rw [mV _ _ _ yF0];simp only [ad7,ae3];rw [List.take_left,apM,aeI oQ,apI,aeV,apK,apP,ad2,List.singleton_append]
section
variable {bv dv:Value}
end
abbrev PV:=aj.Bs×aj.Bs×Value
def jD (q:PV):List Value:=aB q.1++[q.2.2]
def Ij (q:PV):aj.Bs×aj.Bs:=(q.1,q.2.1)
def oz (ps:List PV):aF:=stars (ps.map λq=>aY q.2.2 q.2.1)
theorem zV (q:PV) (hk:q.1.length=32):(jD q).length=33:=by unfold jD;rw [aa7,aP,hk];rfl
theorem akS (q:PV){a:Option Addr}{n c:Nat} (h:q.2.2=.slice a n c):(jD q).all (·.oneCell')=true:=by
 unfold jD;have hb:(aB q.1).all (·.oneCell')=true:=uH _;rw [ajk,hb,h];rfl
theorem agx (ps:List PV) (q:PV):oz (ps++[q])=star (aY q.2.2 q.2.1) (oz ps):=by
 unfold oz;rw [aef,qx,EJ];show star (stars [aY q.2.2 q.2.1]) _=_;rw [EK]
theorem akt:tH prog 122=some [(0,32),(32,1)]:=by kernel_rfl
theorem aou:kD prog 122=some (.agg (jD (aj.zero32,[],.slice none 0 0)).toArray):=by kernel_rfl
theorem al7 (k:aj.Bs) (hk:k.length=32) (d:aj.Bs) (a:Option Addr) (n c:Nat) (w:World) :
  (Instr.build 122 #[(0,.agg (aB k).toArray),(1,.slice a n c)]).run prog w=.ok (.agg (jD (k,d,.slice a n c)).toArray) w:=by
 have hbk:(aB k).toArray.size=32:=by rw [abA,aP,hk]
 refine (apA (P:=prog) [(0,.agg (aB k).toArray),(1,.slice a n c)] akt aou (by
  intro p' hp;simp only [ad9,aiR,apW]at hp;have hzz:(Value.agg (jD (aj.zero32,[],.slice none 0 0)).toArray).cells.size=33:=by
   show (jD (aj.zero32,[],.slice none 0 0)).toArray.size=33;rw [abA,zV _ rfl]
  rw [hzz];rcases hp with rfl|rfl
  ·refine ⟨0,?_,?_⟩
   ·show some (0,32)=some (0,(aB k).toArray.size);rw [hbk]
   ·show 0+(aB k).toArray.size<=33;omega
  ·exact ⟨32,rfl,by show 32+1<=33;omega⟩) w).trans ?_
 congr 2
 show eH (eH (jD (aj.zero32,[],.slice none 0 0)).toArray 0 (aB k)) 32 [.slice a n c]=_;have h1:eH (jD (aj.zero32,[],.slice none 0 0)).toArray 0 (aB k)=(aB k++Value.slice none 0 0::[]).toArray:=by
  apply rY;rw [mV _ _ _ (by rw [abA,zV _ rfl,aP,hk];decide),afC,aeV,aeE,aP,hk,ad7]
  rfl
 rw [h1];exact akN _ _ _ _ (by rw [aP,hk])
section
variable {o:aj.Bs->Option aj.Bs}{d:Bool}
theorem ajs {p ps pn B B0 b:Nat}{L:Seg.Log}{M:ak}{D:List (Nat×List aj.aJ)} (hf:Seg.HD K r0 E B0 n L M D) (hB:B<=b) (hH:Ro w0 F Half) (h:Sat w0 w (iT r m seg p ps pn d::bf pn (Rep.mD (Seg.iH D)) B::aV p m L::aI m M::F)) (hb:b<=1000:=by decide) :
  Calls prog 11 #[ptr r] w (aN λv w'=>∃ (mv:Value) (qs:List PV),v=.tuple #[mv,.bool true]/\(Tab.Lists (Rep.vW (Seg.lS D)) (qs.map Ij)/\(∀ q∈qs,q.1.length=32/\∃ a n c,q.2.2=.slice a n c)/\qs.length<=b/\(∀ q∈qs,q.2.1.length<=16384)) /\
   Sat w0 w' (aC 122 33 mv (qs.flatMap jD)::oz qs::iT r m seg p ps pn d::bf pn (Rep.mD (Seg.iH D)) B::aV p m L::aI m M::F)):=by
 have Hf:=uQ hf;have HH:=uQ hH;have HB:=uQ hB;have Vg:=uQ hb;have hks:=alI (adT hB (adT hb aG)) h;clear hf hH hB h hb;go_enter func11,ntmps11;go_wp2_with fail;refine hks.mono ?_;rintro ee w1 ⟨kv,rfl,kl,hkl,h1⟩;clear hks;have Hl:=uQ hkl.1;have jG:=uQ (show ∀ q∈kl,(aB q.1).length=32 from λq hq=>by rw [aP];exact hkl.2.1 q hq);have Hk:=uQ hkl.2.1;have Oc:=uQ (show kl.length<=b/\b<=1000 from ⟨adT hkl.2.2 HB.o,Vg.o⟩);have qg:=uQ (Rep.akj (es:=(Seg.lS D)) (Seg.ED D) hkl.1);obtain ⟨la,lc,rfl⟩:=iP jG.o (Sat.rd h1) aG;have h2:Sat w0 w1 (aC 122 33 (.slice none 0 0) []::oz []::aC 34 32 (.slice la kl.length lc) (kl.flatMap λq=>aB q.1)::iT r m seg p ps pn d::bf pn (Rep.mD (Seg.iH D)) B::aV p m L::aI m M::F):=Sat.dO.2 (Sat.emp.2 h1);clear hkl h1;go_wp2_with fail
 go_loopg [4,6] kl.length (λg ov iq wr=>∃ (i:Nat) (qs:List PV),g=kl.length-i/\i<=kl.length/\iq=.int .i64 i/\(qs.map Ij=(Rep.yB (Seg.lS D) kl).take i/\(∀ q∈qs,q.1.length=32/\∃ a n c,q.2.2=.slice a n c)/\(∀ q∈qs,q.2.1.length<=16384)) /\
  Sat w0 wr (aC 122 33 ov (qs.flatMap jD)::oz qs::aC 34 32 (.slice la kl.length lc) (kl.flatMap λq=>aB q.1)::iT r m seg p ps pn d::bf pn (Rep.mD (Seg.iH D)) B::aV p m L::aI m M::F))
 case atStart=>exact ⟨0,[],rfl,ad4 _,rfl,⟨rfl,(λq hq=>by cases hq),(λq hq=>by cases hq)⟩,h2⟩
 case round=>
  obtain ⟨i,qs,rfl,hi,rfl,⟨QD,Zg,Zf⟩,hS⟩:=hrel;clear h2;have VP:=uQ QD;have Hq:=uQ Zg;have VN:=uQ Zf;have Zh:qs.length=i:=by
   have:=aeO List.length QD;unfold Rep.yB at this;rw [abl,adt,abl]at this;omega
  have VO:=uQ Zh;clear QD Zg Zf Zh;by_cases hlt:i<kl.length;rotate_left
  ·obtain rfl:i=kl.length:=by omega
   have c1:¬ (kl.length:Int)<(kl.length:Int):=oQ;have hle:=alp (hS.sb:Sat w0 wr (iT r m seg p ps pn d::bf pn (Rep.mD (Seg.iH D)) B::F));clear hlt hi;go_wp2_with fail;refine hle.mono ?_;rintro ee w9 ⟨v,rfl,t,⟨t1,t2⟩,rfl,rfl⟩;clear hle;have htn:(t.n:Int)=(kl.length:Int):=by rw [Tab.ajh t1 t2 Hl.o]
   rw [htn];have heq:((kl.length:Int)==(kl.length:Int))=true:=beq_self_eq_true _;go_wp2_with fail
   go_ret2
   refine ⟨_,rfl,_,qs,rfl,⟨?_,Hq.o,by rw [VO.o];exact Oc.o.1,VN.o⟩,hS.sb⟩;rw [VP.o,adZ (by unfold Rep.yB;rw [abl];exact ab1 _)];exact qg.o
  have c1:(i:Int)<(kl.length:Int):=oQ;have hwi:IntKind.i64.wrap ((i:Int)+1)=(i:Int)+1:=acO _ (by have:=Oc.o;omega);obtain ⟨⟨k,pl⟩,hx⟩:∃ q,kl[i]?=some q:=⟨_,aaJ hlt⟩;have hxm:=acr hx;have Hxk:=uQ (Hk.o _ hxm);have hmk:=(Hl.o.mem k pl).1 hxm;obtain ⟨data,g1,g2,g3,g4,g5,g6⟩:=Hf.o.got hmk;obtain ⟨bk,off,c',hsv,hcell⟩:=iL (f:=λq:aj.Bs×Seg.aZ=>aB q.1) (k:=32) jG.o (Sat.rd (hS.pick fE)) hx aG;cases hsv;have aS:=uQ hlt
  have dP:=uQ (show (Rep.yB (Seg.lS D) kl).take (i+1)=(Rep.yB (Seg.lS D) kl).take i++[(k,data)] by
   unfold Rep.yB;rw [<-apY,<-apY,aeN,hx,ahW,aef,aes,ah3];simp only;rw [g2];rfl)
  have hgt:=alH (by have:=HB.o;have:=Vg.o;omega) Hxk.o pl hmk (Ro.os HH.o) Hf.o.keeps.log Hf.o.keeps.calm.ok g4 g5 data oQ g1
   (hS.sb:Sat w0 wr (iT r m seg p ps pn d::bf pn (Rep.mD (Seg.iH D)) B::aV p m L::aI m M::aC 122 33 u4 (qs.flatMap jD)::oz qs::aC 34 32 (.slice (some ⟨bk,off,none⟩) kl.length lc) (kl.flatMap λq=>aB q.1)::F))
  have Hd3:=uQ (show data.length<=16384 by omega);clear hxm hlt hi hmk g1 g2 g3 g4 g5 g6 hS;go_wp2_with ((with_reducible refine bC ⟨?_⟩);refine iD (b:=bk) (o:=off+i*32) (aB k) ah hcell underlying34 rfl yQ0 ?_);refine hgt.mono ?_;rintro ee w5 ⟨v,rfl,bv,va,vn,vc,rfl,rfl,h5⟩;clear hgt hcell;replace h5:Sat w0 w5 (aC 122 33 u4 (qs.flatMap jD)::aY (.slice va vn vc) data::oz qs::aC 34 32 (.slice (some ⟨bk,off,none⟩) kl.length lc) (kl.flatMap λq=>aB q.1)::iT r m seg p ps pn d::bf pn (Rep.mD (Seg.iH D)) B::aV p m L::aI m M::F):=h5.sb;obtain ⟨bk2,off2,c2,e2,hcell⟩:=iL (f:=λq:aj.Bs×Seg.aZ=>aB q.1) (k:=32) jG.o (Sat.rd (h5.pick iw)) hx aG;cases e2;have hle:(qs.flatMap jD).length<=2147483648:=by
   rw [iK (k:=33) λq hq=>zV q (Hq.o q hq).1,VO.o];have:=Oc.o;have:=aS.o;omega
  go_wp2_with (first
   |((with_reducible refine bC ⟨?_⟩);refine iD (b:=bk) (o:=off+i*32) (aB k) ah hcell underlying34 rfl yQ0 ?_)
   |((with_reducible apply ac0);refine ⟨?_⟩;refine EU (ps:=#[(0,.agg (aB k).toArray),(1,.slice va vn vc)]) (by simp only [ahS,aes,ah3];rfl) (λw=>al7 k Hxk.o data va vn vc w) ?_)
   |((with_reducible refine jh ⟨?_⟩);refine jg (e:=122) (sz:=33) (dF:=56) au h5 ah (cs:=(jD (k,data,.slice va vn vc)).toArray) rfl (by rw [abA,zV _ Hxk.o]) bG ?_;intro bN wN hN)
   |((with_reducible refine fZ ⟨?_⟩);refine jF 122 33 56 au hN ah ah (aU aK) aK (by rw [abA,zV _ Hxk.o]) (ab1 1) (by rw [ad7];exact akS _ rfl) hle (by rw [abA,zV _ Hxk.o];decide) aG rfl ?_;intro bA nA cA wA hA))
  go_roundg (kl.length-(i+1))
  case measure=>have:=aS.o;omega
  case rel=>
   refine ⟨i+1,qs++[(k,data,.slice va vn vc)],rfl,aS.o,by first|rfl|go_num,⟨?_,λq hq=>?_,λq hq=>?_⟩,?_⟩
   ·rw [aef,VP.o,dP.o];rfl
   ·rcases aeQ.1 hq with hq|hq
    ·exact Hq.o q hq
    ·rw [aeG.1 hq];exact ⟨Hxk.o,_,_,_,rfl⟩
   ·rcases aeQ.1 hq with hq|hq
    ·exact VN.o q hq
    ·rw [aeG.1 hq];exact Hd3.o
   ·rw [aeB,List.flatMap_singleton,agx];have h10:Sat w0 wA (aY (.slice va vn vc) data::oz qs::aC 122 33 (.slice (some ⟨bA,0,none⟩) nA cA) (qs.flatMap jD++(jD (k,data,.slice va vn vc)).toArray.toList)::aC 34 32 (.slice (some ⟨bk,off,none⟩) kl.length lc) (kl.flatMap λq=>aB q.1)::iT r m seg p ps pn d::bf pn (Rep.mD (Seg.iH D)) B::aV p m L::aI m M::F):=hA.sb;exact (Sat.star.2 h10).aT
end
end Go.Proofs.Y
namespace Go.Seg
open Go.ak
open Go.aj (Bs aJ encs dV gy)
open Go.Rep
section
variable {K r E B n:Nat}{L:Log}{M:ak}{D:List (Nat×List aJ)}{N:Int}{us:List Use}{pl:List (Bs×aZ)}
theorem GZ (h:D≠[]):0<=dw D:=by
 unfold dw;cases hl:D.getLast? with
 |none=>exact absurd (aox.1 hl) h
 |some d=>simp only;omega
theorem ZR {l:List Row}{kv:List (Bs×dU)} (k1:Tab.Lists (ledger l) kv):kv.length<=l.length:=by
 have h1:∀ x∈kv.map (·.1),x∈l.map iJ:=λx hx=>by
  obtain ⟨q,hq,rfl⟩:=adu.1 hx;have:=(k1.mem q.1 q.2).1 hq;unfold ledger at this;obtain ⟨r,h4,_⟩:=akB.1 this;obtain ⟨h5,_,h6⟩:=KQ h4;exact adu.2 ⟨r,h5,h6⟩
 have:=Tab.KE k1.keys h1
 rwa [abl,abl]at this
theorem jy.QO (h:jy K r E B n L M D){kv:List (Bs×dU)} (k1:Tab.Lists (ledger (iH D)) kv):kv.length<=n:=by
 have h1:=ZR k1;have h2:=h.few;rw [<-ED,abl]at h2;omega
theorem aaj {p : Prop} (h : p := by
 obtain ⟨kv,k1,k2,rfl,rfl⟩:=s.kv;have ho:=h.hd.hint k1 k2;have rU:((lQ D).map (upd kv)).length<=n:=by unfold lQ;rw [abl,abl];exact h.hd.count
 have hpl:(puts kv).length<=n:=adT (by unfold puts;rw [abl];exact aiK _ _) (h.QO k1);have htk:L.aH.take D.length=L.aH:=adZ (by rw [h.hd.aH,abl];exact ab1 _);refine ⟨⟨ho.key,aA.nD.idx ho h.hd.keeps.log oQ,aA.nD.uses ho h.hd.keeps.log oQ,aA.ahb h.hd.keeps.log ho htk ?_,aA.nD.lies ho h.hd.keeps.log,?_⟩,hpl⟩
 ·rw [h.hd.aH,apw,s.last];unfold dw;cases hl:D.getLast? with
  |none=>exact absurd (aox.1 hl) hne
  |some d=>rfl
 ·rw [List.filter_eq_nil_iff];intro x hx;rw [h.hd.aH]at hx;obtain ⟨d,hd,rfl⟩:=adu.1 hx;have:=ZL h.hd.rise hd;rw [s.last];simp only [ad5];omega) : p := h
open dM in
theorem jy.QZ (h:jy K r E B n L M D) (hn:n<=1000) (s:sN D N us pl) (hne:D≠[]):VZ L N us pl/\pl.length<=n:=aaj
end
end Go.Seg
namespace Go.Proofs.Y
open Go.ak
section
variable {pc:Int}{pl:List (aj.Bs×Seg.aZ)}{o:aj.Bs->Option aj.Bs}
theorem ahh (hR:Seg.jy K r0 E B n L M D) (hn:n<=1000) (hst:Seg.sN D N us pl) (hh:Seg.NF M\/D≠[]/\Seg.HF M N pl us) (hH:Ro w0 F Half) (h:Sat w0 w (aV p m L::aI m M::F)) :
  Calls prog 48 #[ptr p,ptr m] w (aN λv w'=>OG w0 p m n L M D F v w'):=by
 have hL:=hR.hd.keeps.log;have hM:=hR.hd.keeps.calm.ok;have hq:=hR.hd.keeps.calm.quiet;obtain rfl:N=Seg.dw D:=hst.last;have hC:=hR.hd.Cm;obtain ⟨q1,_,_⟩:=hR.hd.last hst.ends
 have iQ:=uQ (show ∀ f∈M.list,f.size<=4000000000 from λf hf=>by
  rw [hq.list]at hf;obtain ⟨x,hx,rfl⟩:=adu.1 hf;exact adT (hR.small x hx) aG)
 have Oy:=uQ (λ(w':World) (R:List aF) (hr:Ro w0 R Half) (hw:Sat w0 w' (aV p m L::aI m M::R))=>alN hR hn hst.ends hr hw);have hz:=Iy hM hq.off;have HM:=uQ hM;have HL:=uQ hL;have HH:=uQ hH;have hcase:(D=[]/\(Seg.dw D) = -1/\aA.newest M = -1)\/(0<=(Seg.dw D)/\aA.newest M = -1/\aA.there M (aA.name aA.idx (Seg.dw D))=false)\/(0<=(Seg.dw D)/\aA.newest M=(Seg.dw D)/\D≠[]/\Seg.HF M (Seg.dw D) pl us):=by
  by_cases hne:D=[]
  ·rcases hh with e|⟨e,_⟩
   ·exact .inl ⟨hne,by rw [hne];rfl,e.newest hq⟩
   ·exact absurd hne e
  ·have hpos:=Seg.GZ hne;rcases hh with e|⟨_,e⟩
   ·exact .inr (.inl ⟨by omega,e.newest hq,e.there hq oQ oQ⟩)
   ·exact .inr (.inr ⟨by omega,e.newest hq oQ oQ,hne,e⟩)
 rcases hcase with ⟨_,hm1,c2⟩|⟨c1,c2,c3⟩|⟨c1,c2,c3,c4⟩
 ·clear hR hst hh hL hM hH hC hz;go_enter func48,ntmps48;go_wp2_with (with_reducible apply eG);refine ⟨eU pY h rfl ?_⟩;intro b5 w5 h5;have hla:=QW (F:=pt b5 (.cells (dW Rep.dI.zero) 36 (0,0))::F) HL.o HM.o (Ro.os HH.o) (h5.sb);rw [show Rep.lastOf (dD L M) L.aH=(-1,0) from q1.trans (by rw [hm1])]at hla;clear h h5 q1;go_wp2_with fail;refine hla.mono ?_;rintro ee w6 ⟨v,rfl,rfl,h6⟩;have hnw:=H7 HM.o iQ.o (h6.sb:Sat w0 w6 (aI m M::aV p m L::pt b5 (.cells (dW Rep.dI.zero) 36 (0,0))::F));rw [c2]at hnw;clear hla;go_wp2_with fail;refine hnw.mono ?_;rintro ee w7 ⟨v,rfl,rfl,h7⟩;have qN:=Oy.o w7 (pt b5 (.cells (dW Rep.dI.zero) 36 (0,0))::F) (Ro.os HH.o) (h7.sb);clear h6 h7 hnw;go_wp2_with fail;refine qN.mono ?_;rintro ee w8 ⟨v,rfl,ps,pi,uv,tv,x,rfl,Ko,hx,h9⟩
  have h10:Sat w0 w8 (pt b5 (.cells (dW Rep.dI.zero) 36 (0,0))::bZ ps (Seg.dw D) pi uv tv::bf pi (Tab.mapOf (Rep.puts x.1)) x.2::aC 205 3 uv (((Seg.lQ D).map (Rep.upd x.1)).flatMap bJ)::aV p m L::aI m M::F):=h9.sb;clear h9 qN;go_wp2_with ((with_reducible refine bW ⟨?_⟩);refine fG (dW Rep.dI.zero) h10 ah ah ah bU au ah ?_;intro jZ h11);refine ⟨rfl,_,zX rfl h11 ah aK underlying36 rfl au,_,rfl,ps,pi,uv,tv,x,rfl,Ko,hx,h11.drop⟩
 ·have c4:¬ (Seg.dw D) < -1:=by omega
  have c5:decide ((Seg.dw D) < -1)=false:=aea c4;have c6:decide (0<=(Seg.dw D))=true:=aem c1;clear hR hst hh hL hM hH hC;go_enter func48,ntmps48;go_wp2_with (with_reducible apply eG);refine ⟨eU pY h rfl ?_⟩;intro b5 w5 h5;have hla:=QW (F:=pt b5 (.cells (dW Rep.dI.zero) 36 (0,0))::F) HL.o HM.o (Ro.os HH.o) (h5.sb);rw [show Rep.lastOf (dD L M) L.aH=((Seg.dw D),0) from q1]at hla;clear h h5 q1;go_wp2_with fail;refine hla.mono ?_;rintro ee w6 ⟨v,rfl,rfl,h6⟩;have hnw:=H7 HM.o iQ.o (h6.sb:Sat w0 w6 (aI m M::aV p m L::pt b5 (.cells (dW Rep.dI.zero) 36 (0,0))::F));rw [c2]at hnw;clear hla;go_wp2_with fail;refine hnw.mono ?_;rintro ee w7 ⟨v,rfl,rfl,h7⟩;have hld:=Qv (p:=p) (n:=Seg.dw D) HM.o hz (.inl c3) h7;clear h6 hnw;go_wp2_with fail;refine hld.mono ?_;rintro ee w8 ⟨v,rfl,rfl,h8⟩
  have qN:=Oy.o w8 (pt b5 (.cells (dW Rep.dI.zero) 36 (0,0))::F) (Ro.os HH.o) (h8.sb);clear h7 h8 hld;go_wp2_with fail;refine qN.mono ?_;rintro ee w8 ⟨v,rfl,ps,pi,uv,tv,x,rfl,Ko,hx,h9⟩;have h10:Sat w0 w8 (pt b5 (.cells (dW Rep.dI.zero) 36 (0,0))::bZ ps (Seg.dw D) pi uv tv::bf pi (Tab.mapOf (Rep.puts x.1)) x.2::aC 205 3 uv (((Seg.lQ D).map (Rep.upd x.1)).flatMap bJ)::aV p m L::aI m M::F):=h9.sb;clear h9 qN;go_wp2_with ((with_reducible refine bW ⟨?_⟩);refine fG (dW Rep.dI.zero) h10 ah ah ah bU au ah ?_;intro jZ h11);refine ⟨rfl,_,zX rfl h11 ah aK underlying36 rfl au,_,rfl,ps,pi,uv,tv,x,rfl,Ko,hx,h11.drop⟩
 ·obtain ⟨ld,hpl⟩:=hR.QZ hn hst c3;obtain ⟨kv,k1,k2,k3,k4⟩:=hst.kv;obtain ⟨t1,t2⟩:=c4.there hq;have Hld:=uQ (λ(w':World) (R:List aF) (hw:Sat w0 w' (aV p m L::aI m M::R))=>Y5 hL hM hz t1 t2 pl ld.key us ld.idx ld.uses c4.one c4.two ld.fits ld.lies hw);rw [ld.tail]at Hld;have c6:decide (0<=(Seg.dw D))=true:=aem c1;have Hx:=uQ (show Tab.Lists (Rep.ledger (Seg.iH D)) kv/\(∀ q∈kv,q.1.length=32)/\pl.length<=n/\kv.length<=n from ⟨k1,k2,hpl,hR.QO k1⟩);have uy:=uQ k3;have Hpl:=uQ k4;clear hR hst hh hL hM hH hC hz ld hpl k1 k2 k3 k4 t1 t2 c3 c4 Oy;go_enter func48,ntmps48;go_wp2_with (with_reducible apply eG);refine ⟨eU pY h rfl ?_⟩;intro b5 w5 h5;have hla:=QW (F:=pt b5 (.cells (dW Rep.dI.zero) 36 (0,0))::F) HL.o HM.o (Ro.os HH.o) (h5.sb);rw [show Rep.lastOf (dD L M) L.aH=((Seg.dw D),0) from q1]at hla;clear h h5 q1;go_wp2_with fail
  refine hla.mono ?_;rintro ee w6 ⟨v,rfl,rfl,h6⟩;have hnw:=H7 HM.o iQ.o (h6.sb:Sat w0 w6 (aI m M::aV p m L::pt b5 (.cells (dW Rep.dI.zero) 36 (0,0))::F));rw [c2]at hnw;clear hla;go_wp2_with fail;refine hnw.mono ?_;rintro ee w7 ⟨v,rfl,rfl,h7⟩;have hld:=Hld.o w7 (pt b5 (.cells (dW Rep.dI.zero) 36 (0,0))::F) (h7.sb);clear h6 h7 hnw Hld;go_wp2_with fail;refine hld.mono ?_;rintro ee w8 ⟨v,rfl,ps,pi,uv,tv,rfl,h9⟩;obtain ⟨ta,tn,tc,rfl,htl,_⟩:=Sat.rd (h9.pick (A:=aC 3 1 tv (ints [])) iw);obtain rfl:tn=0:=by simpa [ints] using htl.symm
  have h10:Sat w0 w8 (pt b5 (.cells (dW Rep.dI.zero) 36 (0,0))::bZ ps (Seg.dw D) pi uv (.slice ta 0 tc)::bf pi (Tab.mapOf pl) pl.length::aC 205 3 uv (us.flatMap bJ)::aV p m L::aI m M::F):=h9.sb;clear h9 hld htl;go_wp2_with ((with_reducible refine bW ⟨?_⟩);refine fG (dW Rep.dI.zero) h10 ah ah ah bU au ah ?_;intro jZ h11);have h12:Sat w0 jZ (pt b5 (.cells (dW Rep.dI.zero) 36 (0,0))::bZ ps (Seg.dw D) pi uv (.slice ta 0 tc)::bf pi (Tab.mapOf (Rep.puts kv)) pl.length::aC 205 3 uv (((Seg.lQ D).map (Rep.upd kv)).flatMap bJ)::aV p m L::aI m M::F):=by
   rw [<-uy.o,<-Hpl.o];exact h11
  refine ⟨rfl,_,zX rfl h12 ah aK underlying36 rfl au,_,rfl,ps,pi,uv,_,(kv,pl.length),rfl,⟨ta,tc,rfl⟩,Hx.o,h12.drop⟩
end
end Go.Proofs.Y
namespace Go.Seg
open Go.ak
open Go.aj (Bs aJ encs dV gy)
open Go.Rep
section
variable {K r E B n:Nat}{L:Log}{M M':ak}{D:List (Nat×List aJ)}{N:Int}{us:List Use}{pl:List (Bs×aZ)}{b1 b2:Bs}
theorem nM.clean (h:nM K r E B n L M D):(aA.sweep aA.l7 M.list M).2=0/\jy (K+500) r E B n L (aA.sweep aA.l7 M.list M).1 D/\NF (aA.sweep aA.l7 M.list M).1/\(aA.sweep aA.l7 M.list M).1.now.length<=M.now.length:=by
 have hc:=h.hd.keeps.calm;have qM:M.list=M.now.map (·.1):=hc.quiet.list;have hlen:M.list.length<=500:=by rw [qM,abl];exact hc.ok.fU.len
 have hs:=aA.MJ (p:=aA.l7) M.list K M hc (by rw [qM];exact aA.aaL hc) (λf hf=>by
  rw [qM]at hf;obtain ⟨p,hp,rfl⟩:=adu.1 hf;exact ⟨p.2,Ep hc.ok.fU.oM.keys (show (p.1,p.2)∈M.now from hp)⟩)
 generalize aA.sweep aA.l7 M.list M=R at *
 have hg:∀ p∈R.1.now,aA.l7 p.1=false:=λp hp=>hs.gone p hp (by rw [qM];exact adu.2 ⟨p,hs.sub p hp,rfl⟩);have hk:∀ k:Int,aA.l7 (name k)=false:=λk=>by
  unfold aA.l7;rw [aA.Ic];simp only [Bool.false_or];rw [ad3];exact λe=>aA.Di k (ByteArray.ext (Array.toList_inj.1 e.symm))
 refine ⟨hs.zero,⟨h.hd.apart (hs.calm.mono oQ) (λk=>hs.other _ (hk k)) (adT hs.used h.hd.used) (adT hs.len h.hd.names),?_,h.few,λp hp=>h.small p (hs.sub p hp),h.thin⟩,λp hp=>?_,hs.len⟩
 ·cases hi:bH R.1.now aA.tmp with
  |none=>rfl
  |some i=>
   have:=hg _ (ji hi);unfold aA.l7 at this;simp at this
 ·have:=hg p hp;unfold aA.l7 at this;rw [Bool.or_eq_false_iff]at this;exact this.1
theorem NF.hn (h:NF M) (N:Int):HN M N:=λp hp hm=>by rw [h p hp]at hm;cases hm
theorem nM.iK (h:nM K r E B n L M D):(rowsOf (λs=>L.bytes M s) L.aH).length<=n:=by
 rw [h.hd.rows,<-abl (f:=λr:Row=>r.2.e),ED];exact h.few
theorem nM.TA (h:nM K r E B n L M D):∀ q∈rowsOf (λs=>L.bytes M s) L.aH,(q.2.size:Int)<=4294967296:=λq hq=>by
 rw [h.hd.rows]at hq;exact (h.hd.row hq).2.2.1
theorem nM.QO (h:nM K r E B n L M D){kv:List (Bs×dU)} (k1:Tab.Lists (ledger (iH D)) kv):kv.length<=n:=by
 have h1:=ZR k1;have h2:=h.few;rw [<-ED,abl]at h2;omega
open dN in
theorem nM.QZ (h:nM K r E B n L M D) (hn:n<=1000) (s:sN D N us pl) (hne:D≠[]):VZ L N us pl/\pl.length<=n:=aaj
structure oh (K E B:Nat) (M:ak) (D:List (Nat×List aJ)):Prop where
 rp:∃ L,jy K 1048576 E B 999 L M D
 ends:vk D
 hint:(D=[]/\NF M)\/(D≠[]/\∃ us pl,sN D (dw D) us pl/\HF M (dw D) pl us)
 len:M.now.length<=E
theorem oh.fresh (h:oh K E B M D) (lim:Int) (l1:128<=lim) (l2:lim<=1048576):jy K 1048576 E B 999 (Seg.fresh M lim) M D:=by
 obtain ⟨L,hr⟩:=h.rp;exact hr.fresh lim l1 l2
theorem oh.nf (h:jy K 1048576 E B 999 L M D) (he:vk D) (hl:M.now.length<=E) (hn:NF M) (hd:D=[]):oh K E B M D:=⟨⟨L,h⟩,he,.inl ⟨hd,hn⟩,hl⟩
theorem oh.save (h:jy K 1048576 E B 999 L M D) (hl:M.now.length<=E) (hE:E<=450) (hB:B<=300000) (hn:NF M) (hs:sN D N us pl) (hne:D≠[]) (hb1:b1=aO.book Xx.sum aO.uP true (pl.map jm)) (hb2:b2=aO.book Xx.sum aO.uS false (us.map jr)) (hlen:b1.length+b2.length<=60000) :
  (aA.save M N b1 b2).2=0/\oh (K+600) (E+2) (B+60000) (aA.save M N b1 b2).1 D:=by
 obtain rfl:N=dw D:=hs.last;have h1:=GZ hne;have h2:=h.hd.Cm;have hu:=h.hd.used;obtain ⟨a1,a2,a3,_⟩:=h.hf oQ h1 oQ hb1 hb2 oQ;obtain ⟨c1,_⟩:=h.acu oQ (hn.hn (dw D)) h1 oQ b1 b2;exact ⟨a1,⟨L,c1.mono (ab1 _) (ab1 _) oQ (ab1 _)⟩,hs.ends,.inr ⟨hne,us,pl,hs,a2⟩,by omega⟩
def jP (R:List (Nat×Bs)):List dI:=(R.filter λd=>jV d.2).map λd=>Rep.fault (d.1:Int) (aj.scan d.2).2.1
def sZ (last:Int) (R:List (Nat×Bs)):List dI:=(R.filter λd=>decide (last<(d.1:Int))).map λd=>⟨3,(d.1:Int),0⟩
def Eb (last nw:Int):List dI:=if last<nw then [⟨3,nw,0⟩] else []
def mQ (nw:Int) (R:List (Nat×Bs)):List dI:=jP R++sZ (jA (-1) R) R++Eb (jA (-1) R) nw
structure Pre (K K1 E1 B1:Nat) (M:ak) (R:List (Nat×Bs)) (D:List (Nat×List aJ)):Prop where
 calm:Calm K 1048576 M
 small:∀ p∈M.now,p.1.size<=24
 aH:∀ lim:Int,128<=lim->lim<=1048576->(Seg.fresh M lim).aH=R.map (λd=>(d.1:Int))/\∀ d∈R,(Seg.fresh M lim).bytes M (d.1:Int)=(d.2,0)
 num:R.length<=1000
 lim:∀ d∈R,d.1<1048576
 known:kT (aA.newest M) R=dw D
 clr:(Seg.cleared (dw D) R M).2=0
 rp:∃ L,nM K1 1048576 E1 B1 999 L (Seg.cleared (dw D) R M).1 D
 len:(Seg.cleared (dw D) R M).1.now.length<=E1
 ends:vk D
 hint:mQ (aA.newest M) R=[]->0<=jA (-1) R->aA.there M (aA.name aA.idx (jA (-1) R))=false\/aA.there M (aA.name aA.use (jA (-1) R))=false \/
  ∃ (K' E' B':Nat) (us:List Use) (pl:List (Bs×aZ)),(∃ L,nM K' 1048576 E' B' 999 L M D)/\D≠[]/\sN D (dw D) us pl/\HF M (dw D) pl us/\jA (-1) R=dw D
theorem Pre.next {K1 E1 B1:Nat}{R:List (Nat×Bs)} (h:Pre K K1 E1 B1 M R D):(aA.sweep aA.l7 (Seg.cleared (dw D) R M).1.list (Seg.cleared (dw D) R M).1).2=0 /\
  (∃ L,jy (K1+500) 1048576 E1 B1 999 L (aA.sweep aA.l7 (Seg.cleared (dw D) R M).1.list (Seg.cleared (dw D) R M).1).1 D)/\NF (aA.sweep aA.l7 (Seg.cleared (dw D) R M).1.list (Seg.cleared (dw D) R M).1).1 /\
  (aA.sweep aA.l7 (Seg.cleared (dw D) R M).1.list (Seg.cleared (dw D) R M).1).1.now.length<=E1:=by
 obtain ⟨L,hr⟩:=h.rp;obtain ⟨a1,a2,a3,a4⟩:=hr.clean;exact ⟨a1,⟨L,a2⟩,a3,adT a4 h.len⟩
theorem nK.pre (h:nK 12 6 M):∃ R D,Pre 24000 24100 30 16000 M R D:=by
 obtain ⟨R,hw,hs,hl⟩:=h.hw (n:=999) aG;replace hw:HW 24000 1048576 12 7200 999 M R:=hw;have hu:=h.used;have hsum:(R.map λd=>8+d.2.length).sum=8*R.length+(R.map λd=>d.2.length).sum:=by
  clear hw hs hl
  induction R with
  |nil=>rfl
  |cons d R ih=>simp only [aes,apf,aev];omega
 have hnf:=ajS h.names;have hnw:=hnf.newest hw.calm.quiet;obtain ⟨a1,a2,a3,_⟩:=HW.cleared hw aG oQ oQ (kT (-1) R);obtain ⟨_,_,k3⟩:=QN R (-1);obtain ⟨e1,e2⟩:=ajb hw.rise k3;have hg:=amK h.small a3;have hfew:=ZV (kT (-1) R) R;have hr:=(a2.mono (K':=24100) (E':=30) (B':=16000) oQ oQ oQ).rpt aG aG hg oQ 128 aG aG;refine ⟨R,left (kT (-1) R) R,hw.calm,h.small,λlim l1 l2=>?_,by omega,λd hd=>by have:=hw.lim d hd;omega,by rw [hnw,e2],by rw [e2];exact a1,by rw [e2];exact ⟨_,hr⟩,by rw [e2];exact adT a2.names oQ,e1,λ_ h0=>?_⟩
 ·obtain ⟨k1,k2⟩:=hw.log aG lim l1 l2;exact hw.bytes aG lim l1 l2
 ·left;have hb:jA (-1) R<1048576:=Ph aG λd hd=>by have:=hw.lim d hd;omega
  exact hnf.there hw.calm.quiet h0 hb
theorem oh.pre (h:oh K E B M D):Pre K (K+1) E B M (mF D) D:=by
 obtain ⟨L,hr⟩:=h.rp;have hc:=hr.hd.keeps.calm;have hgd:∀ d∈D,∀ x∈d.2,dV x:=λd hd=>(hr.hd.good d hd).1;have hpos : -1<=aA.newest M/\(aA.newest M = -1\/aA.newest M<=dw D):=by
  rcases h.hint with ⟨e,hn⟩|⟨hne,us,pl,hs,hf⟩
  ·rw [hn.newest hc.quiet];exact ⟨ape _,.inl rfl⟩
  ·have h1:=GZ hne;have h2:=hr.hd.Cm;rw [hf.newest hc.quiet h1 oQ];exact ⟨by omega,.inr (ape _)⟩
 have hcl:=af9 (M:=M) hr.hd.rise hgd;obtain ⟨d1,d2,d3⟩:=hr.dir;refine ⟨hc,hr.small,λlim l1 l2=>?_,by unfold mF;rw [abl];exact adT hr.hd.count aG,λy hy=>?_,aiY hr.hd.rise hgd h.ends hpos.2 hpos.1,by rw [hcl];exact d1,by rw [hcl];exact ⟨L,d3.t⟩,by rw [hcl,d2];exact h.len,h.ends,λ_ h0=>?_⟩
 ·have hf:=h.fresh lim l1 l2;refine ⟨by rw [hf.hd.aH];unfold mF;rw [ahU];rfl,λy hy=>?_⟩;obtain ⟨d,hd,rfl⟩:=adu.1 hy;exact hf.hd.bytes hd
 ·obtain ⟨d,hd,rfl⟩:=adu.1 hy;have:=hr.hd.lim d hd;simp only;omega
 ·have hcm:=Xj hr.hd.rise hgd h.ends;rw [hcm]at h0 ⊢;rcases h.hint with ⟨e,hn⟩|⟨hne,us,pl,hs,hf⟩
  ·rw [e]at h0;exact absurd h0 aG
  ·exact .inr (.inr ⟨K,E,B,us,pl,⟨L,hr.t⟩,hne,hs,hf,rfl⟩)
theorem oh.none (h:oh K E B M D):mQ (aA.newest M) (mF D)=[]:=by
 obtain ⟨L,hr⟩:=h.rp;have hc:=hr.hd.keeps.calm;have hgd:∀ d∈D,∀ x∈d.2,dV x:=λd hd=>(hr.hd.good d hd).1;have hcm:=Xj hr.hd.rise hgd h.ends;have h1:jP (mF D)=[]:=by
  unfold jP
  rw [List.filter_eq_nil_iff.2 λy hy=>by
   obtain ⟨d,hd,_,_,e,_⟩:=Ik hgd hy;rw [e];decide]
  rfl
 have h2:sZ (jA (-1) (mF D)) (mF D)=[]:=by
  unfold sZ
  rw [List.filter_eq_nil_iff.2 λy hy=>by
   obtain ⟨d,hd,e,_⟩:=Ik hgd hy;have:=QU hr.hd.rise hd;rw [hcm];simp only [ad5];omega]
  rfl
 have h3:Eb (jA (-1) (mF D)) (aA.newest M)=[]:=by
  unfold Eb;rw [abL];rw [hcm];rcases h.hint with ⟨e,hn⟩|⟨hne,us,pl,hs,hf⟩
  ·rw [hn.newest hc.quiet,e];decide
  ·have h1:=GZ hne;have h2:=hr.hd.Cm;rw [hf.newest hc.quiet h1 oQ];omega
 unfold mQ;rw [h1,h2,h3]
 rfl
theorem oh.st (h:oh K E B M D):∃ us pl,sN D (dw D) us pl/\(NF M\/D≠[]/\HF M (dw D) pl us):=by
 obtain ⟨L,hr⟩:=h.rp;rcases h.hint with ⟨e,hn⟩|⟨hne,us,pl,hs,hf⟩
 ·obtain ⟨kv,_,_,hst⟩:=hr.hd.stp h.ends;exact ⟨_,_,hst,.inl hn⟩
 ·exact ⟨us,pl,hs,.inr ⟨hne,hf⟩⟩
end
end Go.Seg
