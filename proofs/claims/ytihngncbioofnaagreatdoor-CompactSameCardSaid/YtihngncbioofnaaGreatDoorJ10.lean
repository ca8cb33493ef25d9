import Derived.Test.YtihngncbioofnaaGreatDoorJ9
import Derived.Test.YtihngncbioofnaaGreatDoorShelf
import Derived.Laws.StructEq
open Go.Proofs.Tryz
set_option maxRecDepth 20000
set_option linter.unusedVariables false
set_option linter.unusedSimpArgs false
set_option maxHeartbeats 128000000
open Go Go.Sl Go.MapKept Go.RowKit
open Go.Proofs.YtihngncbioofnaaGreatDoor
variable {w w0:World}{F:List aG}{m K p B b q b3 ps pi base:Nat}{M:ay.ay}{bv v lv dv x uv tv:Value}{P:Program}{ops:Array Oper}{rest:List Oper}{a:Act}{Q:Exit->Act->World->Prop}{dst:Option Tmp}{t ty:TypeId}{after:Array Edge}{y:Operand}{n:Int}{mp:aj.Bs->Option Seg.aV}{H:Type}{spare:Nat->Bool}{held:Bool}
namespace Go.Proofs.Y
open Go.ay
section
variable {rv nv:Value}
theorem amD (a b c:Int) (w:World):(Instr.build 45 #[(0,.int .i64 a),(1,.int .i64 b),(2,.int .i64 c)]).run prog w=.ok (.agg (bG ⟨a,b,c⟩).toArray) w:=by kernel_rfl
theorem Tn (a b c:Int) (w:World):(Instr.build 94 #[(0,.int .i64 a),(1,.int .i64 b),(2,.int .i64 c)]).run prog w=.ok (.agg (aW ⟨a,b,c⟩).toArray) w:=by kernel_rfl
theorem Kw {a b c:Int} (h:bF 1 nv (ints [a,b,c]) w):∃ q o cc,nv=.slice (some ⟨q,o,none⟩) 3 cc/\w.cell? ⟨q,o,none⟩=some (.int .i64 a)/\w.cell? ⟨q,o+1,none⟩=some (.int .i64 b)/\w.cell? ⟨q,o+2,none⟩=some (.int .i64 c):=by
 obtain ⟨q,o,cc,rfl,c0⟩:=JM h (i:=0) rfl;obtain ⟨_,_,_,e1,c1⟩:=JM h (i:=1) rfl;cases e1;obtain ⟨_,_,_,e2,c2⟩:=JM h (i:=2) rfl;cases e2;exact ⟨q,o,cc,rfl,c0,c1,c2⟩
theorem alo (k:aj.Bs) (hk:k.length=32) (a b c:Int) (hr:Ro w0 F (bF 1 nv (ints [a,b,c]))) (h:Sat w0 w F) :
  Calls prog 187 #[.agg (dA ⟨⟨k,[a,b,c]⟩,nv⟩).toArray] w (aP λv w'=>v=.agg (bG ⟨a,b,c⟩).toArray/\Sat w0 w' F):=by
 obtain ⟨q,o,cc,rfl,_⟩:=Kw (hr w h);have Hr:=uQ hr;have Hk:=uQ hk;clear hr hk;go_enter func187,ntmps187;go_wp2_with (with_reducible apply fD);refine ⟨fE h ah ah ?_⟩;intro b1 w1 h1;replace h1:Sat w0 w1 (qm b1 k [a,b,c] (.slice (some ⟨q,o,none⟩) 3 cc)::F):=h1;go_wp2_with (with_reducible apply fB);refine ⟨eF MK h1 rfl ?_⟩;intro b2 w2 h2;clear h h1;go_wp2_with fail;have h3:=h2.drew;clear h2;refine dN [12,13] (λw'=>w'.cell? ⟨b1,32,none⟩=some (.slice (some ⟨q,o,none⟩) 3 cc)/\w'.cell? ⟨q,o,none⟩=some (.int .i64 a)/\w'.cell? ⟨q,o+1,none⟩=some (.int .i64 b)/\w'.cell? ⟨q,o+2,none⟩=some (.int .i64 c)) au ?_
 have hG:World.cell? w2.drew ⟨b1,32,none⟩=some (.slice (some ⟨q,o,none⟩) 3 cc)/\World.cell? w2.drew ⟨q,o,none⟩=some (.int .i64 a)/\World.cell? w2.drew ⟨q,o+1,none⟩=some (.int .i64 b)/\World.cell? w2.drew ⟨q,o+2,none⟩=some (.int .i64 c):=by
  obtain ⟨_,_,_,e,c0⟩:=Kw (Hr.o _ h3.drop.drop);cases e;exact ⟨h3.cellP bf 32 (AX (x:=⟨k,[a,b,c]⟩) Hk.o),c0⟩
 refine rP 0 ?_ (y:=bY);refine rt 1 (h:=?_);refine rP 2 ?_ (y:=jJ);refine rt 3 (h:=?_);refine rP 4 ?_ (y:=bY);refine rt 5 (h:=?_);refine rP 6 ?_ (y:=jJ);refine rt 7 (h:=?_);refine rP 8 ?_ (y:=bY);refine rt 9 (h:=?_);refine rP 10 ?_ (y:=jJ);refine rt 11 (h:=?_);clear hG;refine rP 12 ?_ (y:=(GZ ak ak ak (λw=>amD a b c w)));refine bW 13 ak au (λK hK=>?_);refine kQ (cs':=(bG ⟨a,b,c⟩).toArray) h3 ak ak ah cZ bI au ah ?_;intro w4 h4;refine hK _ _ (.inl rfl) ?_;clear hK h3;refine dH au ?_;go_wp2_with fail;refine ⟨rfl,_,yU rfl h4 ah bJ underlying45 rfl au,?_⟩;exact ⟨_,rfl,rfl,h4.drop.drop⟩
theorem ald (k:aj.Bs) (hk:k.length=32) (a b c:Int):eU (gW (aj.zero32,Seg.aV.zero)).toArray 0 (gW (k,⟨a,b,c⟩)).toArray.toList=(gW (k,⟨a,b,c⟩)).toArray:=by
 rw [aby _ _ (by rw [ad6,abn,lJ (k,⟨a,b,c⟩) hk,lJ (aj.zero32,Seg.aV.zero) rfl]),ad6]
theorem aln (k:aj.Bs) (hk:k.length=32) (a b c:Int) (hr:Ro w0 F (bF 1 nv (ints [a,b,c]))) (h:Sat w0 w F) :
  Calls prog 185 #[.agg (dA ⟨⟨k,[a,b,c]⟩,nv⟩).toArray] w (aP λv w'=>v=.agg (gW (k,⟨a,b,c⟩)).toArray/\Sat w0 w' F):=by
 obtain ⟨q,o,cc,rfl,_⟩:=Kw (hr w h);have Hr:=uQ hr;have Hk:=uQ hk;have iK:=uQ (show (aA k).length=32 by rw [aX];exact hk);clear hr hk;go_enter func185,ntmps185;go_wp2_with (with_reducible apply fD);refine ⟨fE h ah ah ?_⟩;intro b1 w1 h1;replace h1:Sat w0 w1 (qm b1 k [a,b,c] (.slice (some ⟨q,o,none⟩) 3 cc)::F):=h1;go_wp2_with (with_reducible apply fB);refine ⟨eF MH h1 rfl ?_⟩;intro b2 w2 h2;clear h h1;go_wp2_with fail;have h3:=h2.drew;clear h2;refine dN [15,16] (λw'=>w'.cell? ⟨b1,32,none⟩=some (.slice (some ⟨q,o,none⟩) 3 cc)/\w'.cell? ⟨q,o,none⟩=some (.int .i64 a)/\w'.cell? ⟨q,o+1,none⟩=some (.int .i64 b)/\w'.cell? ⟨q,o+2,none⟩=some (.int .i64 c)/\w'.rangeAt b1 0 (aA k)) au ?_
 have hG:World.cell? w2.drew ⟨b1,32,none⟩=some (.slice (some ⟨q,o,none⟩) 3 cc)/\World.cell? w2.drew ⟨q,o,none⟩=some (.int .i64 a)/\World.cell? w2.drew ⟨q,o+1,none⟩=some (.int .i64 b)/\World.cell? w2.drew ⟨q,o+2,none⟩=some (.int .i64 c)/\World.rangeAt w2.drew b1 0 (aA k):=by
  obtain ⟨_,_,_,e,c0,c1,c2⟩:=Kw (Hr.o _ h3.drop.drop);cases e;exact ⟨h3.cellP bf 32 (AX (x:=⟨k,[a,b,c]⟩) Hk.o),c0,c1,c2,λj z hj=>by rw [ad8];exact h3.cellP bf j (Ld (x:=⟨k,[a,b,c]⟩) hj)⟩
 refine rP 0 ?_ (y:=bY);refine gK 1 ak au bV (jh (b:=b1) (o:=0) (aA k) ah underlying50 rfl yG0 (λw hw=>hw.2.2.2.2)) aQ gQ ?_;refine rP 2 ?_ (y:=bY);refine rt 3 (h:=?_);refine rP 4 ?_ (y:=jJ);refine rt 5 (h:=?_);refine rP 6 ?_ (y:=bY);refine rt 7 (h:=?_);refine rP 8 ?_ (y:=jJ);refine rt 9 (h:=?_);refine rP 10 ?_ (y:=bY);refine rt 11 (h:=?_);refine rP 12 ?_ (y:=jJ);refine rt 13 (h:=?_);clear hG;refine rP 14 ?_ (y:=(GZ ak ak ak (λw=>Tn a b c w)));refine rP 15 ?_ (y:=(UH ak ak (λw=>acv k Hk.o ⟨a,b,c⟩ w)));refine bW 16 ak au (λK hK=>?_);refine kQ (cs':=(gW (k,⟨a,b,c⟩)).toArray) h3 ak ak (ald k Hk.o a b c) cZ (by show 0+(gW (k,⟨a,b,c⟩)).toArray.size<=35;rw [abn,lJ _ Hk.o];decide) (by show _=some (gW (k,⟨a,b,c⟩)).toArray.size;rw [abn,lJ _ Hk.o];kernel_rfl) (by show (gW (k,⟨a,b,c⟩)).toArray.toList.all _=true;rw [ad6];exact FK _) ?_;intro w4 h4
 refine hK _ _ (.inl rfl) ?_;clear hK h3;refine dH au ?_;go_wp2_with fail;refine ⟨rfl,_,yU rfl h4 ah bJ underlying219 rfl (by rw [abn,lJ _ Hk.o];kernel_rfl),?_⟩;exact ⟨_,rfl,rfl,h4.drop.drop⟩
theorem afA (us:List Rep.Use) (vs:List RV) (hus:vs.map (·.x)=us.map Rep.jl) (hl:us.length<=65536) (hr:Ro w0 F (bF 33 lv (vs.flatMap dA))) (he:∀ r∈vs,su w0 F r) (h:Sat w0 w F) :
  Calls prog 186 #[lv,.func (.func 187) #[] #[]] w (aP λv w'=>Sat w0 w' (aC 45 3 v (us.flatMap bG)::F)):=by
 obtain ⟨la,lc,rfl⟩:=jK (λr hr=>lQ r (he r hr).key) (hr w h) aN;have hlen:vs.length=us.length:=by have:=aey List.length hus;rwa [aa4,aa4]at this
 have Hr:=uQ hr;have Hl:=uQ hl;have He:=uQ he;have zJ:=uQ hus;have Hlen:=uQ hlen;clear hr hl he hus;rw [hlen];clear hlen;go_enter func186,ntmps186;go_wp2_with fail
 go_loopg [5,10] us.length (λg ov iq wr=>∃ (i:Nat) (o2:Value),g=us.length-i/\i<=us.length/\o2=ov/\iq=.int .i64 i/\Sat w0 wr (aC 45 3 o2 ((us.take i).flatMap bG)::F))
 case atStart=>exact ⟨0,_,rfl,aea _,rfl,rfl,Sat.gB.2 h⟩
 case round=>
  obtain ⟨i,ov,rfl,hi,rfl,rfl,hS⟩:=hrel;clear h;by_cases hlt:i<us.length
  ·as_aux_lemma=>
    have c3:(i:Int)<(us.length:Int):=oQ;have hwi:IntKind.i64.wrap ((i:Int)+1)=(i:Int)+1:=adr _ yN0;obtain ⟨r,hx⟩:∃ r,vs[i]?=some r:=⟨_,aay (by rw [Hlen.o];exact hlt)⟩;obtain ⟨u,hu⟩:∃ u,us[i]?=some u:=⟨_,aay hlt⟩;have mY:r.x=Rep.jl u:=by
     have h1:(vs.map (·.x))[i]?=some r.x:=by rw [adW,hx];rfl
     rw [zJ.o,adW,hu]at h1;exact (ai2 h1).symm
    obtain ⟨bk,off,c',hsv,hcell⟩:=jd (f:=dA) (k:=33) (λr hr=>lQ r (He.o r hr).key) (Hr.o _ hS.drop) hx aN;rw [Hlen.o]at hsv;cases hsv;have hro:=He.o r (abA hx);have eG:=uQ (show us.take (i+1)=us.take i++[u] from aT.kY hu)
    have iV:=uQ (show ((us.take i).flatMap bG).length<=2147483648 from by
     rw [jy (λu _=>vP u),ads];have:=Hl.o;omega)
    obtain ⟨rx,nv⟩:=r;dsimp only at mY;subst mY;have H1:=uQ hro;have bT:=uQ hlt;obtain ⟨na,nn,nc,vk,_,_⟩:=hro.rd _ hS.drop;dsimp only at vk;subst vk;clear hx hu hlt hi hro
    go_wp2_with (first
     |((with_reducible refine bP ⟨?_⟩);refine iR (b:=bk) (o:=off+i*33) (dA ⟨Rep.jl u,.slice na nn nc⟩) ah hcell underlying221 rfl zA0 ?_)
     |(with_reducible apply fB))
    refine ⟨eF zq hS rfl ?_⟩;intro b8 w8 h8;clear hS hcell;go_wp2_with (with_reducible apply dh);refine ⟨fP (dA ⟨Rep.jl u,.slice na nn nc⟩).toArray h8 ah ah (by rw [kX _ H1.o.key];rfl) cZ zB0 Dy ?_⟩;intro w9 h9;clear h8;go_wp2_with ((with_reducible refine bP ⟨?_⟩);refine iQ h9 ah aU underlying221 rfl zB0 ?_);refine (alo aj.zero32 rfl u.seg u.size u.live (Ro.os H1.o.rd) h9).mono ?_;rintro ee w10 ⟨v,rfl,rfl,h10⟩;clear h9
    go_wp2_with (first
     |((with_reducible refine nR ⟨?_⟩);refine nN (e:=45) (sz:=3) (eX:=24) (cs:=(bG u).toArray) au h10 ah rfl ah bI ?_;intro bN wN hN)
     |(with_reducible apply lH))
    refine ⟨oh (cs:=(bG u).toArray) 45 3 24 au hN ah ah (aS (aS aU)) aU ah bI ah iV.o (by exact Nat.le_of_ble_eq_true ah) bI rfl ?_⟩;intro b' n' c2 kT iM;go_wp2_with fail
    go_roundg (us.length-(i+1))
    case measure=>have:=bT.o;omega
    case rel=>exact ⟨i+1,_,rfl,aec bT.o,rfl,by first|rfl|go_num,by rw [eG.o,aeB,ael,ajb,adV];exact iM.sb⟩
  ·have c3:¬ (i:Int)<(us.length:Int):=by omega
   have hi2:i=us.length:=oQ;subst hi2;rw [aeo]at hS;clear hi hlt;go_wp2_with fail;go_ret;exact ⟨_,rfl,hS⟩
theorem afz (us:List (aj.Bs×Seg.aV)) (vs:List RV) (hus:vs.map (·.x)=us.map Rep.ji) (hl:us.length<=65536) (hk:∀ q∈us,q.1.length=32) (hr:Ro w0 F (bF 33 lv (vs.flatMap dA))) (he:∀ r∈vs,su w0 F r) (h:Sat w0 w F) :
  Calls prog 184 #[lv,.func (.func 185) #[] #[]] w (aP λv w'=>Sat w0 w' (aC 219 35 v (us.flatMap gW)::F)):=by
 obtain ⟨la,lc,rfl⟩:=jK (λr hr=>lQ r (he r hr).key) (hr w h) aN;have hlen:vs.length=us.length:=by have:=aey List.length hus;rwa [aa4,aa4]at this
 have Hr:=uQ hr;have Hl:=uQ hl;have He:=uQ he;have zJ:=uQ hus;have Hlen:=uQ hlen;have Hk:=uQ hk;clear hr hl he hus hk;rw [hlen];clear hlen;go_enter func184,ntmps184;go_wp2_with fail
 go_loopg [5,10] us.length (λg ov iq wr=>∃ (i:Nat) (o2:Value),g=us.length-i/\i<=us.length/\o2=ov/\iq=.int .i64 i/\Sat w0 wr (aC 219 35 o2 ((us.take i).flatMap gW)::F))
 case atStart=>exact ⟨0,_,rfl,aea _,rfl,rfl,Sat.gB.2 h⟩
 case round=>
  obtain ⟨i,ov,rfl,hi,rfl,rfl,hS⟩:=hrel;clear h;by_cases hlt:i<us.length
  ·as_aux_lemma=>
    have c3:(i:Int)<(us.length:Int):=oQ;have hwi:IntKind.i64.wrap ((i:Int)+1)=(i:Int)+1:=adr _ yN0;obtain ⟨r,hx⟩:∃ r,vs[i]?=some r:=⟨_,aay (by rw [Hlen.o];exact hlt)⟩;obtain ⟨u,hu⟩:∃ u,us[i]?=some u:=⟨_,aay hlt⟩;have mY:r.x=Rep.ji u:=by
     have h1:(vs.map (·.x))[i]?=some r.x:=by rw [adW,hx];rfl
     rw [zJ.o,adW,hu]at h1;exact (ai2 h1).symm
    obtain ⟨bk,off,c',hsv,hcell⟩:=jd (f:=dA) (k:=33) (λr hr=>lQ r (He.o r hr).key) (Hr.o _ hS.drop) hx aN;rw [Hlen.o]at hsv;cases hsv;have hro:=He.o r (abA hx);have eG:=uQ (show us.take (i+1)=us.take i++[u] from aT.kY hu)
    have iV:=uQ (show ((us.take i).flatMap gW).length<=2147483648 from by
     rw [jy (λu hu=>lJ u (Hk.o u (aeP hu))),ads];have:=Hl.o;omega)
    have qA:=Hk.o u (abA hu);obtain ⟨rx,nv⟩:=r;dsimp only at mY;subst mY;have H1:=uQ hro;have bT:=uQ hlt;obtain ⟨na,nn,nc,vk,_,_⟩:=hro.rd _ hS.drop;dsimp only at vk;subst vk;clear hx hu hlt hi hro
    go_wp2_with (first
     |((with_reducible refine bP ⟨?_⟩);refine iR (b:=bk) (o:=off+i*33) (dA ⟨Rep.ji u,.slice na nn nc⟩) ah hcell underlying221 rfl zA0 ?_)
     |(with_reducible apply fB))
    refine ⟨eF zq hS rfl ?_⟩;intro b8 w8 h8;clear hS hcell;go_wp2_with (with_reducible apply dh);refine ⟨fP (dA ⟨Rep.ji u,.slice na nn nc⟩).toArray h8 ah ah (by rw [kX _ H1.o.key];rfl) cZ zB0 Dy ?_⟩;intro w9 h9;clear h8;go_wp2_with ((with_reducible refine bP ⟨?_⟩);refine iQ h9 ah aU underlying221 rfl zB0 ?_);refine (aln u.1 qA u.2.seg u.2.at_ u.2.size (Ro.os H1.o.rd) h9).mono ?_;rintro ee w10 ⟨v,rfl,rfl,h10⟩;clear h9
    go_wp2_with (first
     |((with_reducible refine nR ⟨?_⟩);refine nN (e:=219) (sz:=35) (eX:=56) (cs:=(gW u).toArray) au h10 ah rfl (by rw [abn,lJ _ qA]) bI ?_;intro bN wN hN)
     |(with_reducible apply lH))
    refine ⟨oh (cs:=(gW u).toArray) 219 35 56 au hN ah ah (aS (aS aU)) aU (by rw [abn,lJ _ qA]) bI (by rw [ad6];exact FK u) iV.o (by rw [abn,lJ _ qA];decide) bI rfl ?_⟩;intro b' n' c2 kT iM;go_wp2_with fail
    go_roundg (us.length-(i+1))
    case measure=>have:=bT.o;omega
    case rel=>exact ⟨i+1,_,rfl,aec bT.o,rfl,by first|rfl|go_num,by rw [eG.o,aeB,ael,ajb,adV];exact iM.sb⟩
  ·have c3:¬ (i:Int)<(us.length:Int):=by omega
   have hi2:i=us.length:=oQ;subst hi2;rw [aeo]at hS;clear hi hlt;go_wp2_with fail;go_ret;exact ⟨_,rfl,hS⟩
theorem afS (us:List Rep.Use) (hok:aT.Ok 3 false (us.map Rep.jl)) (hr:RS w0 F bv (aT.book Xx.sum aT.qM false (us.map Rep.jl))) (h:Sat w0 w F) :
  Calls prog 151 #[bv] w (aP λv w'=>∃ lv,v=.tuple #[lv,errno 0]/\Sat w0 w' (aC 45 3 lv (us.flatMap bG)::F)):=by
 have hn:us.length<=65536:=by have:=hok.len;rwa [aa4]at this
 have Hr:=uQ hr;have dB:=uQ hok;have Hn:=uQ hn;clear hr hok hn;go_enter func151,ntmps151;go_wp2_with fail;refine (adq h).mono ?_;rintro ee w1 ⟨v,rfl,rfl,h1⟩;clear h;go_wp2_with fail;refine (afP ⟨#[72,79,65,82,68,85,83,69]⟩ aT.qM rfl rfl 3 aN aN _ dB.o (λr hr=>by obtain ⟨u,_,rfl⟩:=abL.1 hr;rfl) Hr.o h1).mono ?_;rintro ee w2 ⟨v,rfl,vs,lv,rfl,hvs,h2⟩;have lW:=uQ hvs
 have dS:=uQ (show ∀ r∈vs,r.x.key.length=32/\0<r.x.nums.length from λr hr=>by
  have h1:r.x∈us.map Rep.jl:=by rw [<-hvs];exact apt hr
  have:=dB.o.row r.x h1;exact ⟨this.key,by rw [this.len];decide⟩)
 clear h1 hvs;go_wp2_with fail;refine (afA us vs lW.o Hn.o (λw hw=>Sat.rd hw) (λr hr=>(Dc hr (dS.o r hr).1 (dS.o r hr).2).sub kL) h2).mono ?_;rintro ee w3 ⟨v,rfl,h3⟩;clear h2;go_wp2_with fail
 go_ret2
 exact ⟨_,rfl,_,rfl,h3.sb⟩
theorem afQ (us:List (aj.Bs×Seg.aV)) (hk:∀ q∈us,q.1.length=32) (hok:aT.Ok 3 true (us.map Rep.ji)) (hr:RS w0 F bv (aT.book Xx.sum aT.qL true (us.map Rep.ji))) (h:Sat w0 w F) :
  Calls prog 150 #[bv] w (aP λv w'=>∃ lv,v=.tuple #[lv,errno 0]/\Sat w0 w' (aC 219 35 lv (us.flatMap gW)::F)):=by
 have hn:us.length<=65536:=by have:=hok.len;rwa [aa4]at this
 have Hr:=uQ hr;have dB:=uQ hok;have Hn:=uQ hn;have Hk:=uQ hk;clear hr hok hn hk;go_enter func150,ntmps150;go_wp2_with fail;refine (ZJ h).mono ?_;rintro ee w1 ⟨v,rfl,rfl,h1⟩;clear h;go_wp2_with fail;refine (afR ⟨#[72,79,65,82,68,73,68,88]⟩ aT.qL rfl rfl 3 aN aN _ dB.o Hr.o h1).mono ?_;rintro ee w2 ⟨v,rfl,vs,lv,rfl,hvs,h2⟩;have lW:=uQ hvs
 have dS:=uQ (show ∀ r∈vs,r.x.key.length=32/\0<r.x.nums.length from λr hr=>by
  have h1:r.x∈us.map Rep.ji:=by rw [<-hvs];exact apt hr
  have:=dB.o.row r.x h1;exact ⟨this.key,by rw [this.len];decide⟩)
 clear h1 hvs;go_wp2_with fail;refine (afz us vs lW.o Hn.o Hk.o (λw hw=>Sat.rd hw) (λr hr=>(Dc hr (dS.o r hr).1 (dS.o r hr).2).sub kL) h2).mono ?_;rintro ee w3 ⟨v,rfl,h3⟩;clear h2;go_wp2_with fail
 go_ret2
 exact ⟨_,rfl,_,rfl,h3.sb⟩
end
def sK (b:Nat) (xs:List (aj.Bs×Seg.aV)):aG:=Sl.ex λov:Value=>star (pt b (.cells #[ov] 153 (0,0))) (aC 219 35 ov (xs.flatMap gW))
theorem alE {fn:Func}{t:Tmp} (h:fn.results=#[.tmp t]) (tmps:Array Value) (P:Program) (w:World):(results fn tmps).run P w=.ok (tmps.getD t undef) w:=by
 simp only [results,h];simp
theorem ag8 {P:Program}{w0 w:World}{F:List aG}{fn:Func}{a:Act}{K:Ending->World->Prop}{D:Nat}{v:Value} (ha:a.defers=[{ target:= .collected D,args:=#[] }]) (h:Sat w0 w (pt D (.deferred (some []))::F)) (hv:∀ w,(results fn a.tmps).run P w=.ok v w)
  (hK:∀ w',Sat w0 w' F->K (.returned v) w'):OX P fn K .ret a w:=by
 show LeavesInM Fence.wide 0 P fn a.tmps K a.defers .returning w;rw [ha];exact Z8 h hv hK
section
variable {m:aj.Bs->Option Seg.aV}{kv xs:List (aj.Bs×Seg.aV)}
theorem abb (h:Sat w0 w (sK b xs::F)):∃ ov,Sat w0 w (pt b (.cells #[ov] 153 (0,0))::aC 219 35 ov (xs.flatMap gW)::F):=by
 obtain ⟨ov,h1⟩:=Sat.ex.1 h;exact ⟨ov,Sat.star.1 h1⟩
theorem abd {ov:Value} (h:Sat w0 w (pt b (.cells #[ov] 153 (0,0))::aC 219 35 ov (xs.flatMap gW)::F)):Sat w0 w (sK b xs::F):=Sat.ex.2 ⟨ov,Sat.star.2 h⟩
theorem aoQ:jF prog 153=some (.slice none 0 0):=by kernel_rfl
theorem aiB (hl:Tab.Lists m kv) (hB:B<=13000000) (hkl:kv.length<=13000000) (hks:∀ q∈kv,q.1.length=32) (h:Sat w0 w (aH p m B::F)) :
  Calls prog 79 #[ptr p] w (aP λv w'=>Sat w0 w' (aC 219 35 v (kv.flatMap gW)::aH p m B::F)):=by
 have Hl:=uQ hl;have HB:=uQ hB;have mG:=uQ hkl;have iK:=uQ hks;clear hl hB hkl hks;refine WS func79 rfl ?_;simp only [ntmps79,abn,aep,aeL,Nat.reduceAdd,Nat.reduceSub,Array.replicate_succ,Array.replicate_zero,List.push_toArray,List.append_toArray,aeu,aeI];go_wp2_with (with_reducible apply fB);refine ⟨eF aoQ h rfl ?_⟩;intro b3 w3 h3;go_wp2_with fail;refine (afg h3).mono ?_;rintro ee w4 ⟨v,rfl,bA,rfl,h4⟩;go_wp2_with fail;have h5:Sat w0 w4 (aH p m B::pt bA (.cells #[ptr p] 35 (0,0))::sK b3 (kv.take 0)::F):=by
  have h6:Sat w0 w4 (pt b3 (.cells #[.slice none 0 0] 153 (0,0))::aH p m B::pt bA (.cells #[ptr p] 35 (0,0))::F):=h4.sb;exact (abd (xs:=[]) ((Sat.gB.2 h6).sb:Sat w0 w4 (pt b3 (.cells #[.slice none 0 0] 153 (0,0))::aC 219 35 (.slice none 0 0) []::aH p m B::pt bA (.cells #[ptr p] 35 (0,0))::F))).sb
 clear h h3 h4;refine adG (gf:=175) (lb:=#[ptr bA]) ah (λargs w=>by kernel_rfl) (aff HB.o Hl.o) ?_ (λpre=>sK b3 (kv.take pre.length)::F) h5 ?_ ?_
 ·intro x hx;obtain ⟨p,_,rfl⟩:=abL.1 hx
  rfl
 ·clear h5;intro l pre x post U W hkv hS T hT;obtain ⟨i,hi⟩:∃ i,i=pre.length:=⟨_,rfl⟩;have hlt:i<kv.length:=by
   have:=aey List.length hkv;rw [aa4,aaL,aep]at this;omega
  obtain ⟨⟨k,y⟩,hy⟩:∃ p,kv[i]?=some p:=⟨_,aay hlt⟩;obtain rfl:x=zQ (k,y):=by
   have e1:(kv.map zQ)[i]?=some (zQ (k,y)):=by rw [adW,hy];rfl
   rw [hkv,hi,aeh (abl _),ajN,List.getElem?_cons_zero]at e1;exact ai2 e1
  have Fg:=iK.o _ (abA hy);have htk:kv.take (i+1)=kv.take i++[(k,y)]:=by rw [aeK,hy,afw]
  have hil:(pre++[zQ (k,y)]).length=i+1:=by rw [aaL,hi];rfl
  have eG:=uQ htk;have kH:=uQ hil;have o9:=uQ (show k.length=32 from Fg)
  have iV:=uQ (show ((kv.take i).flatMap gW).length<=2147483648 from by
   rw [jy (k:=35) λq hq=>lJ q (iK.o q (aeP hq)),ads];have:=mG.o;omega)
  have hS0:Sat w0 W (sK b3 (kv.take i)::(F++U)):=by rw [hi];exact hS
  clear hkv hS hi hlt hy Fg htk hil;simp [zQ]at hT;subst hT;refine wpIn_seq_k λK hK=>?_;refine vJ ah λK2 hK2=>?_;go_wp2_with (with_reducible apply fB);refine ⟨eF adM hS0 rfl ?_⟩;intro b5 w5 h5;go_wp2_with ((with_reducible refine dh ⟨?_⟩);refine fP (aA k).toArray h5 ah ah (by rw [abn,aX,o9.o];rfl) cZ (by rw [abn,aX,o9.o];kernel_rfl) (by rw [ad6];exact tH _) ?_;intro w6 h6);refine vJ ah λK3 hK3=>?_;go_wp2_with (with_reducible apply fB);refine ⟨eF ou h6 rfl ?_⟩;intro b6 w7 h7;go_wp2_with ((with_reducible refine dh ⟨?_⟩);refine fP (aW y).toArray h7 ah ah ah cZ au ah ?_;intro w8 h8);refine ⟨pt b6 (.cells (aW y).toArray 94 (0,0))::pt b5 (.cells (aA k).toArray 50 (0,0))::sK b3 (kv.take i)::F,h8,?_⟩;clear h8 h7 h6 h5 hS0;intro U' w9 h9
  have h10:Sat w0 w9 (pt b6 (.cells (aW y).toArray 94 (0,0))::pt b5 (.cells (aA k).toArray 50 (0,0))::sK b3 (kv.take i)::(F++U')):=h9;clear h9;obtain ⟨ov,h11⟩:=abb (h10.sb:Sat w0 w9 (sK b3 (kv.take i)::pt b6 (.cells (aW y).toArray 94 (0,0))::pt b5 (.cells (aA k).toArray 50 (0,0))::(F++U')));clear h10;obtain ⟨oa,on,oc,rfl,_,_⟩:=Sat.rd (h11.pick bf);refine wpIn_block (vJ ah λK6 hK6=>?_)
  go_wp2_with (first
   |((with_reducible refine bP ⟨?_⟩);first
    |refine iQ h11 ah eH underlying94 rfl au ?_
    |refine iQ h11 ah iO underlying50 rfl (by rw [abn,aX,o9.o];kernel_rfl) ?_
    |refine fZ h11 ah aU bI ak au ?_)
   |((with_reducible refine Ws ⟨?_⟩);refine ady ah ah (λw=>acv k o9.o y w) ?_)
   |((with_reducible refine nR ⟨?_⟩);refine nN (e:=219) (sz:=35) (eX:=56) (cs:=(gW (k,y)).toArray) au h11 ah rfl (by rw [abn,lJ _ o9.o]) bI ?_;intro bN wN hN)
   |(with_reducible apply lH))
  refine ⟨oh (cs:=(gW (k,y)).toArray) 219 35 56 au hN ah ah eH aU (by rw [abn,lJ _ o9.o]) bI (by rw [ad6];exact FK (k,y)) iV.o (by rw [abn,lJ _ o9.o];decide) bI rfl ?_⟩;intro b' n' c' w12 h12;clear h11 hN;go_wp2_with (with_reducible apply dh);refine ⟨gq (cs':=#[.slice (some ⟨b',0,none⟩) n' c']) (h12.sb:Sat w0 w12 (pt b3 (.cells #[.slice oa on oc] 153 (0,0))::aC 219 35 (.slice (some ⟨b',0,none⟩) n' c') ((kv.take i).flatMap gW++gW (k,y))::(F++U'))) ah ah ah cZ bI au ah ?_⟩;intro jM h13;go_wp2_with fail;refine ⟨trivial,?_⟩;rw [kH.o,eG.o];have iM:=abd (xs:=kv.take i++[(k,y)]) (by rw [aeB,ael,ajb,adV];exact h13);exact iM
 ·intro D w8 h8;have h9:Sat w0 w8 (aH p m B::pt bA (.cells #[ptr p] 35 (0,0))::sK b3 kv::(F++[pt D (.deferred (some []))])):=by
   have q:=h8;rw [aa4,aeo]at q;exact q
  have hA:Sat w0 w8 (pt D (.deferred (some []))::aH p m B::pt bA (.cells #[ptr p] 35 (0,0))::sK b3 kv::F):=
   Sat.IX (L:=aH p m B::pt bA (.cells #[ptr p] 35 (0,0))::sK b3 kv::F) (R:=[pt D (.deferred (some []))]) h9
  clear h5 h8 h9;obtain ⟨ov,hB2⟩:=abb (hA.sb:Sat w0 w8 (sK b3 kv::pt D (.deferred (some []))::aH p m B::F));clear hA;obtain ⟨oa,on,oc,rfl,_,_⟩:=Sat.rd (hB2.pick bf);go_wp2_with ((with_reducible refine bP ⟨?_⟩);refine fZ hB2 ah aU bI ak au ?_);refine ag8 rfl (hB2.sb:Sat w0 w8 (pt D (.deferred (some []))::aC 219 35 (.slice oa on oc) (kv.flatMap gW)::aH p m B::F)) (λw=>alE (t:=2) ah _ _ w) ?_;intro w9 h9;exact ⟨_,rfl,h9⟩
end
end Go.Proofs.Y
namespace Go.aB
open Go.ay
def name (lead:ByteArray) (n:Int):ByteArray:=if Seg.name n=ByteArray.empty then ByteArray.empty else lead++(Seg.name n).extract 4 12
def idx:ByteArray:=⟨#[105,100,120,46]⟩
def use:ByteArray:=⟨#[117,115,101,46]⟩
theorem Lh (n:Int):Seg.name n=ByteArray.empty\/(Seg.name n).size=12/\(Seg.name n).data.toList.take 4=Seg.lead:=by
 unfold Seg.name;split
 ·exact .inl rfl
 ·right;refine ⟨?_,rfl⟩;show (Seg.lead++Seg.iW n.toNat 8).toArray.size=12;rw [abn,aaL,Seg.wJ];rfl
end Go.aB
namespace Go.Proofs.Y
open Go.ay
theorem aib (s:ByteArray) (h1:s.size=12) (h2:s.data.toList.take 4=Seg.lead) (w:World) :
  Calls prog 211 #[.string s,.string ⟨#[115,101,103,46]⟩] w (aP λv w'=>v=.bool true/\w=w'):=by
 have EZ:((s.extract 0 4).toList==[115,101,103,46])=true:=by rw [Ov s,h2];rfl
 have hle:(4:Int)<=(s.size:Int):=oQ;clear h2;go_enter func211,ntmps211;go_wp2;go_ret;exact ⟨_,rfl,rfl,rfl⟩
theorem anX (s:ByteArray) (h1:s.size=12) (h2:s.data.toList.take 4=Seg.lead) (w:World) :
  Calls prog 206 #[.string s,.string ⟨#[115,101,103,46]⟩] w (aP λv w'=>v=.string (s.extract 4 12)/\w=w'):=by
 have hp:=aib s h1 h2 w;go_enter func206,ntmps206;go_wp2_with fail;refine hp.mono ?_;rintro e w1 ⟨v,rfl,rfl,rfl⟩;clear hp;go_wp2;go_ret;exact ⟨_,rfl,rfl,rfl⟩
theorem trim_c (s:ByteArray) (h1:s.size=12) (h2:s.data.toList.take 4=Seg.lead) (w:World) :
  Calls prog 172 #[.string s,.string ⟨#[115,101,103,46]⟩] w (aP λv w'=>v=.string (s.extract 4 12)/\w=w'):=by
 have hp:=anX s h1 h2 w;go_enter func172,ntmps172;go_wp2_with fail;refine hp.mono ?_;rintro e w1 ⟨v,rfl,rfl,rfl⟩;clear hp;go_wp2;go_ret;exact ⟨_,rfl,rfl,rfl⟩
theorem Zi (lead:ByteArray) (hl:lead.size=4) (n:Int) (h:Sat w0 w F) :
  Calls prog 130 #[.string lead,.int .i64 n] w (aP λv w'=>v=.string (aB.name lead n)/\Sat w0 w' F):=by
 have hn:=yY n h;have Hf:=uQ (show aB.name lead n=if Seg.name n=ByteArray.empty then ByteArray.empty else lead++(Seg.name n).extract 4 12 from rfl);have Hc:=uQ (aB.Lh n);generalize Seg.name n=s at *
 go_enter func130,ntmps130;go_wp2_with fail;refine hn.mono ?_;rintro e w1 ⟨v,rfl,rfl,hS⟩;clear hn;rcases Hc.o with rfl|⟨h1,h2⟩
 ·clear hl h;go_wp2;go_ret;exact ⟨_,rfl,by rw [Hf.o];rfl,hS⟩
 ·have hne:s≠ByteArray.empty:=λe=>by rw [e]at h1;cases h1
  have hne2:(s.toList==[])=false:=by
   rw [adX,ByteArray.toList_eq];intro e;have:=aey List.length e;rw [ad4]at this;have h1':s.data.size=12:=h1;rw [h1']at this;cases this
  have hsz:¬ 9223372036854775807<lead.size+(s.extract 4 12).size:=by rw [hl,ByteArray.size_extract];omega
  have qZ:=uQ hne;have ht:=trim_c s h1 h2;clear hne h1 h2 hl h;go_wp2_with fail;refine (ht _).mono ?_;rintro e w2 ⟨v,rfl,rfl,rfl⟩;clear ht;go_wp2;go_ret;exact ⟨_,rfl,by rw [Hf.o,abj qZ.o];rfl,hS⟩
theorem JL (n:Int) (h:Sat w0 w F):Calls prog 77 #[.int .i64 n] w (aP λv w'=>v=.string (aB.name aB.idx n)/\Sat w0 w' F):=by
 have hn:=Zi aB.idx rfl n h;go_enter func77,ntmps77;go_wp2_with fail;refine hn.mono ?_;rintro e w1 ⟨v,rfl,rfl,hS⟩;clear hn;go_wp2;go_ret;exact ⟨_,rfl,rfl,hS⟩
theorem LU (n:Int) (h:Sat w0 w F):Calls prog 82 #[.int .i64 n] w (aP λv w'=>v=.string (aB.name aB.use n)/\Sat w0 w' F):=by
 have hn:=Zi aB.use rfl n h;go_enter func82,ntmps82;go_wp2_with fail;refine hn.mono ?_;rintro e w1 ⟨v,rfl,rfl,hS⟩;clear hn;go_wp2;go_ret;exact ⟨_,rfl,rfl,hS⟩
def hM:ay:=ay.new 100
end Go.Proofs.Y
namespace Go.aB
open Go.ay
def number (s:ByteArray):Int×Bool:=
 if s.data.toList.take 4=[105,100,120,46]\/s.data.toList.take 4=[117,115,101,46] then Seg.number ⟨(Seg.lead++s.data.toList.drop 4).toArray⟩ else (0,false)
def sH:List ByteArray->Int->Int
 |[],m=>m
 |f::l,m=>sH l (if (number f).2=true then max m (number f).1 else m)
def newest (M:ay):Int:=sH M.list (-1)
end Go.aB
namespace Go.Proofs.Y
open Go.ay
section
variable {L:List aG}{e:TypeId}{pos:String}{x:Operand}{v1 v2:Value}{cs1 cs2:Array Value}{g:Nat×Bool}{op:Op}{sz eX:Nat}
theorem amy (hb:pX P t e sz eX=true) (h1:v1.cells.size=sz) (h2:v2.cells.size=sz) (hle:2*sz<=16777216) (w:World) :
  (Instr.buildSlice t 2 #[(0,v1),(1,v2)]).run P w=.ok (.slice (some ⟨w.heap.size,0,none⟩) 2 2) (w.alloc (.cells (v1.cells++v2.cells) e)):=by
 obtain ⟨hu,i,z,hi,hz,e1,e2,e3,e4⟩:=xW hb;subst e1;have hzv:(zeroValue e).run P w=.ok z w:=by simp [zeroValue,typeInfo,hi,hz]
 have hsz':(sizeOf e).run P w=.ok i.size w:=by simp [sizeOf,typeInfo,hi]
 have hnz:¬ (2*i.size=0):=oQ;have hle':¬ (2*i.size>2^24):=oQ;unfold Instr.buildSlice;simp only [ad1,afM hu,adu,hsz',abj hle',abj hnz,hzv,aek];have hf:Instr.fill (λi'=>some (i'*i.size,i.size)) ((Array.range (2*i.size)).map (z.cells[· % z.cells.size]!)) [(0,v1),(1,v2)]=some (v1.cells++v2.cells):=by
  generalize hz0:(Array.range (2*i.size)).map (z.cells[· % z.cells.size]!)=z0;have hs1:z0.size=2*i.size:=by rw [<-hz0];simp
  have hf1:∀ (v:Value) (off:Nat) (cs:Array Value),v.cells.zipIdx.foldl (λcs (c,j)=>cs.setIfInBounds (off+j) c) cs=eU cs off v.cells.toList:=λv off cs=>by
   have:=O8 v.cells.toList 0 off cs;rw [ai6]at this;rw [<-this,<-Array.foldl_toList,Array.toList_zipIdx]
  unfold Instr.fill;simp only [Nat.zero_mul];have hc:¬ ((v1.cells.size≠i.size || 0+v1.cells.size>z0.size)=true):=by
   rw [hs1];simp [h1];omega
  simp only [abj hc];rw [hf1];unfold Instr.fill;simp only [Nat.one_mul];have hc2:¬ ((v2.cells.size≠i.size || i.size+v2.cells.size>(eU z0 0 v1.cells.toList).size)=true):=by
   rw [kW,hs1];simp [h2];omega
  simp only [abj hc2];rw [hf1];unfold Instr.fill
  congr 1
  apply Array.toList_inj.1;have hl1:v1.cells.toList.length=i.size:=by rw [ad4];exact h1
  have hl2:v2.cells.toList.length=i.size:=by rw [ad4];exact h2
  have hz1:z0.toList.length=2*i.size:=by rw [ad4];exact hs1
  rw [l9 _ _ _ (by rw [kW,hs1,hl2];omega),l9 _ _ _ (by rw [hs1,hl1];omega),ap3];rw [aeO,aeu,ad8,aeC oQ,ad9 oQ,aew (by rw [aaL,ad3,hl1,hl2,hz1];omega),adV]
 simp only [hf];simp [newRow,go_sem]
theorem aoA (hb:pX P ty e sz eX=true) (hs:Sat w0 w L) (hx:a.eval x=v1) (hy:a.eval y=v2) (hc1:v1.cells=cs1) (hc2:v2.cells=cs2) (h1:cs1.size=sz) (h2:cs2.size=sz) (hle:2*sz<=16777216)
  (hK:∀ b w',Sat w0 w' (pt b (.cells (cs1++cs2) e (0,0))::L)->wpList P ops Q rest (a.put dst (.slice (some ⟨b,0,none⟩) 2 2)) w'):wpList P ops Q (⟨dst,.buildSlice ty 2 #[(0,x),(1,y)],t,pos,after,none⟩::rest) a w:=by
 subst hc1;subst hc2;refine aeV rfl λ_ hK'=>?_;have hS:=hs.alloc (.cells (v1.cells++v2.cells) e);unfold Oper.wp execOp;simp only [hx,hy,aeX,ad7,aeF,ad1,aek,amy hb h1 h2 hle w,adu];exact hK' _ _ (hK _ _ hS)
end
end Go.Proofs.Y
namespace Go.aB
open Go.aj (Bs)
theorem Rn (l p:List UInt8):Lib.hasPrefix l p=decide (l.take p.length=p):=by
 rw [aol,decide_eq_true_iff];unfold Lib.hasPrefix;rw [List.isPrefixOf_iff_prefix,List.prefix_iff_eq_take];exact eq_comm
theorem agA {l p:List UInt8} (h:l.take p.length=p):Lib.trimPrefix l p=l.drop p.length:=by
 unfold Lib.trimPrefix;rw [acg (by rw [Rn,decide_eq_true_iff];exact h)]
theorem aaT {s:ByteArray} (h:s.data.toList.take 4=[105,100,120,46]\/s.data.toList.take 4=[117,115,101,46]):number s=Seg.number ⟨(Seg.lead++s.data.toList.drop 4).toArray⟩:=by unfold number;rw [acg h]
theorem akj {s:ByteArray} (h:¬ (s.data.toList.take 4=[105,100,120,46]\/s.data.toList.take 4=[117,115,101,46])):number s=(0,false):=by unfold number;rw [abj h]
end Go.aB
namespace Go.Proofs.Y
open Go.ay
section
variable {pos:String}{x:Operand}
theorem afv (h:Stop (wpList P ops Q (⟨dst,.buildSlice ty 2 #[(0,x),(1,y)],t,pos,after,none⟩::rest) a w)):wpList P ops Q (⟨dst,.buildSlice ty 2 #[(0,x),(1,y)],t,pos,after,none⟩::rest) a w:=h.o
end
theorem Xm (s p:ByteArray) (w:World):Calls prog 143 #[.string s,.string p] w (aP λv w'=>v=.tuple #[.string ⟨(Lib.trimPrefix s.data.toList p.data.toList).toArray⟩,.bool (Lib.hasPrefix s.data.toList p.data.toList)]/\w=w'):=
 (Tryz.strings_CutPrefix s p w).mono λe w' ⟨he,hw⟩=>⟨_,he,rfl,hw.symm⟩
theorem Xn (s p:ByteArray) (k:Nat) (hk:p.data.toList.length=k) (h:s.data.toList.take k=p.data.toList) (w:World):Calls prog 143 #[.string s,.string p] w (aP λv w'=>v=.tuple #[.string ⟨(s.data.toList.drop k).toArray⟩,.bool true]/\w=w'):=by
 subst hk;have hc:=Xm s p w;rw [aB.agA h,aB.Rn,aeb h]at hc;exact hc
theorem Xl (s p:ByteArray) (k:Nat) (hk:p.data.toList.length=k) (h:¬ s.data.toList.take k=p.data.toList) (w:World):Calls prog 143 #[.string s,.string p] w (aP λv w'=>(∃ r:ByteArray,v=.tuple #[.string r,.bool false])/\w=w'):=by
 subst hk;have hc:=Xm s p w;rw [aB.Rn,ad2 h]at hc;exact hc.mono λe w' ⟨v,he,hv,hw⟩=>⟨v,he,⟨_,hv⟩,hw⟩
theorem ZY (r:List UInt8):(⟨#[115,101,103,46]⟩:ByteArray)++(⟨r.toArray⟩:ByteArray)=⟨(Seg.lead++r).toArray⟩:=by
 apply ByteArray.ext;rw [ByteArray.data_append];apply Array.toList_inj.1;simp [Seg.lead]
theorem Zl (s:ByteArray) (hs:s.size<=4000000000) (h:Sat w0 w F) :
  Calls prog 85 #[.string s] w (aP λv w'=>v=.tuple #[.int .i64 (aB.number s).1,.bool (aB.number s).2]/\Sat w0 w' F):=by
 have Hs:=uQ hs;have hsz:∀ r:List UInt8,r.length<=4000000000->¬ 9223372036854775807<(⟨#[115,101,103,46]⟩:ByteArray).size+(⟨r.toArray⟩:ByteArray).size:=λr hr=>by
  have:(⟨r.toArray⟩:ByteArray).size=r.length:=by show r.toArray.size=_;exact abn ..
  have h4:(⟨#[115,101,103,46]⟩:ByteArray).size=4:=rfl;omega
 have iZ:=uQ hsz;have Hl:=uQ (show s.data.toList.length<=4000000000 from by rw [ad4];exact hs);clear hs hsz;go_enter func85,ntmps85;go_wp2_with ((with_reducible refine afv ⟨?_⟩);refine aoA (e:=9) (sz:=1) (eX:=16) (cs1:=#[.string ⟨#[105,100,120,46]⟩]) (cs2:=#[.string ⟨#[117,115,101,46]⟩]) au h ah ah rfl rfl rfl rfl bI ?_;intro b w1 h1);replace h1:Sat w0 w1 (pt b (.cells #[.string ⟨#[105,100,120,46]⟩,.string ⟨#[117,115,101,46]⟩] 9 (0,0))::F):=h1
 go_loopg [10] 3 (λg iq wr=>∃ i:Nat,g=3-i/\i<=2/\iq=.int .i64 i/\wr=w1/\(1<=i->¬ s.data.toList.take 4=[105,100,120,46])/\(2<=i->¬ s.data.toList.take 4=[117,115,101,46]))
 case atStart=>exact ⟨0,rfl,by omega,rfl,rfl,λh=>by omega,λh=>by omega⟩
 case round=>
  obtain ⟨i,rfl,hi,rfl,rfl,hn1,hn2⟩:=hrel;have h01:i=0\/i=1\/i=2:=oQ;clear hi h;have c0:=h1.cellAt 0 (.string ⟨#[105,100,120,46]⟩) rfl;have c1:=h1.cellAt 1 (.string ⟨#[117,115,101,46]⟩) rfl;rcases h01 with rfl|rfl|rfl
  ·clear hn1 hn2 c1;go_wp2_with fail;by_cases ht:s.data.toList.take 4=[105,100,120,46]
   ·refine (Xn s ⟨#[105,100,120,46]⟩ 4 rfl ht _).mono ?_;rintro e w2 ⟨v,rfl,rfl,rfl⟩;have hz:=iZ.o (s.data.toList.drop 4) (by rw [ad3];have:=Hl.o;omega);have Hy:=uQ (aB.aaT (s:=s) (.inl ht));clear ht iZ;go_wp2_with fail;rw [show (⟨#[115,101,103,46]⟩:ByteArray)++(⟨(s.data.toList.drop 4).toArray⟩:ByteArray)=⟨(Seg.lead++s.data.toList.drop 4).toArray⟩ from ZY _];refine (TI _ h1).mono ?_;rintro e w3 ⟨v,rfl,rfl,h3⟩;go_wp2_with fail
    go_ret2
    exact ⟨_,rfl,by rw [Hy.o];rfl,h3.drop⟩
   ·refine (Xl s ⟨#[105,100,120,46]⟩ 4 rfl ht _).mono ?_;rintro e w2 ⟨v,rfl,⟨r,rfl⟩,rfl⟩;clear c0;go_wp2_with fail
    go_roundg 2
    case measure=>omega
    case rel=>exact ⟨1,rfl,by omega,rfl,rfl,λ_=>ht,λh=>by omega⟩
  ·have ht1:=hn1 oQ;clear hn1 hn2 c0;go_wp2_with fail;by_cases ht:s.data.toList.take 4=[117,115,101,46]
   ·refine (Xn s ⟨#[117,115,101,46]⟩ 4 rfl ht _).mono ?_;rintro e w2 ⟨v,rfl,rfl,rfl⟩;have hz:=iZ.o (s.data.toList.drop 4) (by rw [ad3];have:=Hl.o;omega);have Hy:=uQ (aB.aaT (s:=s) (.inr ht));clear ht ht1 iZ;go_wp2_with fail;rw [show (⟨#[115,101,103,46]⟩:ByteArray)++(⟨(s.data.toList.drop 4).toArray⟩:ByteArray)=⟨(Seg.lead++s.data.toList.drop 4).toArray⟩ from ZY _];refine (TI _ h1).mono ?_;rintro e w3 ⟨v,rfl,rfl,h3⟩;go_wp2_with fail
    go_ret2
    exact ⟨_,rfl,by rw [Hy.o];rfl,h3.drop⟩
   ·refine (Xl s ⟨#[117,115,101,46]⟩ 4 rfl ht _).mono ?_;rintro e w2 ⟨v,rfl,⟨r,rfl⟩,rfl⟩;clear c1;go_wp2_with fail
    go_roundg 1
    case measure=>omega
    case rel=>exact ⟨2,rfl,by omega,rfl,rfl,λ_=>ht1,λ_=>ht⟩
  ·have Hy:=uQ (aB.akj (s:=s) (λh=>h.elim (hn1 oQ) (hn2 oQ)));clear hn1 hn2 c0 c1;go_wp2_with fail
   go_ret2
   exact ⟨_,rfl,by rw [Hy.o];rfl,h1.drop⟩
theorem aaM {v:Value}{l:List ByteArray} (h:bF 1 v (strs l) w):∃ a c,v=.slice a l.length c:=by
 obtain ⟨a,n,c,rfl,hl,hx⟩:=h;unfold strs at hl;rw [aa4,aes]at hl;exact ⟨a,c,by rw [hl]⟩
theorem QV {l:List ByteArray}{i:Nat}{s:ByteArray}{a:Option Addr}{n c:Nat} (h:bF 1 (.slice a n c) (strs l) w) (hi:l[i]?=some s):∃ bk off,a=some ⟨bk,off,none⟩/\w.cell? ⟨bk,off+i,none⟩=some (.string s):=by
 have hx:(strs l)[i]?=some (.string s):=by unfold strs;rw [adW,hi];rfl
 obtain ⟨bk,off,rfl,hc⟩:=pI h hx;exact ⟨bk,off,rfl,hc _ _ hx⟩
theorem aaf (ok:M.Ok K):M.list.length<=500:=by
 unfold ay.list;split
 ·exact aea _
 ·rw [aa4];exact ok.ig.len
theorem aj8 {l:List ByteArray}{i:Nat}{s:ByteArray} (h:l[i]?=some s) (x:Int):aB.sH (l.drop i) x=aB.sH (l.drop (i+1)) (if (aB.number s).2=true then max x (aB.number s).1 else x):=by
 obtain ⟨hi,rfl⟩:=abm.1 h;rw [ah3 hi]
 rfl
theorem Ko (hM:M.Ok K) (hn:∀ f∈M.list,f.size<=4000000000) (h:Sat w0 w (aJ m M::F)):Calls prog 106 #[ptr m] w (aP λv w'=>v=.int .i64 (aB.newest M)/\Sat w0 w' (aJ m M::F)):=by
 have hls:=JY hM h;have Hlen:=uQ (aaf hM);have Hn:=uQ hn;have Hw:=uQ (show aB.sH M.list (-1)=aB.newest M from rfl);clear hn hM;generalize M.list=l at *
 generalize aB.newest M=W at *
 go_enter func106,ntmps106;go_wp2_with fail;refine hls.mono ?_;rintro e w1 ⟨v,rfl,hS,_⟩;clear hls h;obtain ⟨a,c,rfl⟩:=aaM (Sat.rd hS);go_wp2_with fail
 go_loopg [3,11] l.length (λg lv iq wr=>∃ (i:Nat) (x:Int),g=l.length-i/\i<=l.length/\lv=.int .i64 x/\iq=.int .i64 i/\aB.sH (l.drop i) x=W/\Sat w0 wr (aC 9 1 (.slice a l.length c) (strs l)::aJ m M::F))
 case atStart=>exact ⟨0,-1,rfl,aea _,rfl,rfl,Hw.o,hS⟩
 case round=>
  obtain ⟨i,x,rfl,hi,rfl,rfl,hx,hS2⟩:=hrel;clear hS;by_cases hlt:i<l.length
  ·have c1:(i:Int)<(l.length:Int):=by omega
   have hwi:IntKind.i64.wrap ((i:Int)+1)=(i:Int)+1:=adr _ yM0;obtain ⟨s,hs⟩:∃ s,l[i]?=some s:=⟨_,aay hlt⟩;obtain ⟨bk,off,rfl,hc⟩:=QV (Sat.rd hS2) hs;have Hx:=uQ (hx.symm.trans (aj8 hs x));have hsz:=Hn.o s (abA hs);have bT:=uQ hlt;clear hx hs hlt hi;go_wp2_with fail;refine (Zl s hsz hS2).mono ?_;rintro e w2 ⟨v,rfl,rfl,hS3⟩;clear hS2 hc;generalize (aB.number s).1=n at *
   generalize (aB.number s).2=b at *
   cases b with
   |true=>
    go_wp2_with fail
    go_roundg (l.length-(i+1))
    case measure=>have:=bT.o;omega
    case rel=>exact ⟨i+1,max x n,rfl,aec bT.o,by first|rfl|(congr 1),by first|rfl|go_num,Hx.o.symm,hS3⟩
   |false=>
    go_wp2_with fail
    go_roundg (l.length-(i+1))
    case measure=>have:=bT.o;omega
    case rel=>exact ⟨i+1,x,rfl,aec bT.o,rfl,by first|rfl|go_num,Hx.o.symm,hS3⟩
  ·have c1:¬ (i:Int)<(l.length:Int):=by omega
   have Hx:=uQ (show x=W by rw [aew oQ]at hx;exact hx);clear hx hlt hi;go_wp2_with fail;go_ret;exact ⟨_,rfl,by rw [Hx.o];rfl,hS2.drop⟩
end Go.Proofs.Y
namespace Go.Seg
open Go.ay
open Go.aj (encs gu)
section
variable {K K':Nat}{M M':ay}{L:Log}{s t:ByteArray}{i:Nat}{sure opn:List (aV×aj.aI)}
theorem ahD (M:ay) (limit:Int):Has (fresh M limit) M:=λx hx=>by
 obtain ⟨t,ht,hn,rfl⟩:=Cj hx;simp only;rw [(C9 hn).2.2];exact aag ht
theorem ahF {n lim:Int} (hoff:M.off=false) (h1:0<=n) (h2:n<1048576) (hi:bU M.now (name n)=some i):n∈nf (fresh M lim):=by
 have hl:name n∈M.list:=by
  unfold ay.list;rw [hoff];exact abL.2 ⟨_,jD hi,rfl⟩
 unfold nf fresh;simp only;rw [ad9 (by rw [aa4];simp)];refine abL.2 ⟨(n,(M.size (name n)).1),?_,rfl⟩;unfold found;refine List.mem_filterMap.2 ⟨name n,hl,?_⟩;rw [Ku n h1 h2]
 rfl
end
end Go.Seg
namespace Go.aB
open Go.ay
def tmp:ByteArray:=⟨#[116,109,112]⟩
def there (M:ay) (s:ByteArray):Bool:=decide ((M.size s).2=0)
def uF (M:ay):ay×Int:=if there M tmp=true then M.remove tmp else (M,0)
def fill (M:ay) (s:ByteArray) (b:Bs):ay×Int:=
 if (M.append tmp b).2=0 then
  (if ((M.append tmp b).1.sync tmp).2=0 then ((M.append tmp b).1.sync tmp).1.rename tmp s else (M.append tmp b).1.sync tmp)
 else if (M.append tmp b).2=11 then
  (if ((M.append tmp b).1.remove tmp).2=0 then (((M.append tmp b).1.remove tmp).1,11) else (M.append tmp b).1.remove tmp)
 else M.append tmp b
def write (M:ay) (s:ByteArray) (b:Bs):ay×Int:=
 if (uF M).2=0 then (if ((uF M).1.create tmp).2=0 then fill ((uF M).1.create tmp).1 s b else (uF M).1.create tmp) else uF M
def sweep (p:ByteArray->Bool):List ByteArray->ay->ay×Int
 |[],M=>(M,0)
 |f::l,M=>if p f=true then (if (M.remove f).2=0 then sweep p l (M.remove f).1 else M.remove f) else sweep p l M
def other (n:Int) (s:ByteArray):Bool:=(number s).2 && (number s).1 != n
def Tv (M:ay) (n:Int):ay×Int:=if M.dR.2=0 then sweep (other n) M.dR.1.list M.dR.1 else M.dR
def Tt (M:ay) (n:Int) (bu:Bs):ay×Int:=if (write M (name use n) bu).2=0 then Tv (write M (name use n) bu).1 n else write M (name use n) bu
def save (M:ay) (n:Int) (bi bu:Bs):ay×Int:=if (write M (name idx n) bi).2=0 then Tt (write M (name idx n) bi).1 n bu else write M (name idx n) bi
abbrev Kept:Type:=List (ByteArray×Nat×bK)
section
variable {T:Kept}{s1 s2 s:ByteArray}{b1 b2 b:Bs}{K j:Nat}{M M':ay}{l:Names}{fs fs':Nat->bK}
theorem TT:tmp≠ByteArray.empty:=by decide
end
end Go.aB
namespace Go.Proofs.Y
open Go.ay
section
variable {fb nb r:Nat}{bs:List Nat}{wv:Value}{s:ByteArray}{l:Names}{fs:List bK}
theorem abN (hM:M.Ok K) (hK:K<=1099511627776) (h:Sat w0 w (aJ m M::F)) (s t:ByteArray) (ht:t.size<=9223372036854775807) :
  Calls prog 142 #[ptr m,.string s,.string t] w (aP λv w'=>v=errno (M.rename s t).2/\Sat w0 w' (aJ m (M.rename s t).1::F)):=by
 obtain ⟨bs,fb,nb,wv,hl,hR⟩:=aJ.open h;have hg:=Yz t w ht;cases ho:M.off
 ·cases hn:bU M.now s with
  |none=>
   have hf:=Ac (s:=s) hR ho hn;have bH:Hid (M.rename s t=(M,9)):=by show _=_;simp [ay.rename,ho,hn]
   clear ho hn;go_enter func142,ntmps142;go_wp2_with (first|(go_at_call 90;refine hf.mono ?_;rintro e w1 ⟨v,rfl,rfl,rfl⟩));go_ret;exact ⟨errno 9,rfl,by rw [bH.o],by rw [bH.o];exact h⟩
  |some i=>
   have hf:=Ae (s:=s) hR ho hn;cases hgs:good t
   ·rw [hgs]at hg;have bH:Hid (M.rename s t=(M,7)):=by show _=_;simp [ay.rename,ho,hn,hgs]
    clear ho hn hgs;go_enter func142,ntmps142;go_wp2_with (first|(go_at_call 90;refine hf.mono ?_;rintro e w1 ⟨v,rfl,rfl,rfl⟩)|(go_at_call 176;refine hg.mono ?_;rintro e w1 ⟨v,rfl,rfl,rfl⟩));go_ret;exact ⟨errno 7,rfl,by rw [bH.o],by rw [bH.o];exact h⟩
   rw [hgs]at hg;have hst:=Bc hR hM.left;cases hstep:M.step.2
   ·rw [hstep]at hst;have bH:Hid (M.rename s t=(M.step.1,12)):=by show _=_;simp [ay.rename,ho,hn,hgs,hstep]
    clear ho hn hstep hgs;go_enter func142,ntmps142;go_wp2_with (first|(go_at_call 90;refine hf.mono ?_;rintro e w1 ⟨v,rfl,rfl,rfl⟩)|(go_at_call 176;refine hg.mono ?_;rintro e w1 ⟨v,rfl,rfl,rfl⟩)|(go_at_call 128;refine hst.mono ?_;rintro e w1 ⟨v,rfl,rfl,hS1⟩));go_ret;refine ⟨errno 12,rfl,by rw [bH.o],?_⟩;rw [bH.o];exact aJ.shut (bs:=bs) (fb:=fb) (nb:=nb) (wv:=wv) yY0 (uD hS1)
   ·rw [hstep]at hst;have bH:Hid (M.rename s t=(M.step.1.link ⟨s,t,i⟩,0)):=by show _=_;simp [ay.rename,ho,hn,hgs,hstep]
    have hne:=rE hgs;have hl':bs.length=M.step.1.files.length:=by rw [M.jZ.2.2.2.1];exact hl
    have hlp:oU bs ⟨s,t,i⟩=ptr (bs.getD i 0):=by unfold oU;rw [abj hne]
    have zy:=uQ hl';have Nz:=uQ hlp;clear ho hn hstep hgs hne hl' hlp;generalize hq:bs.getD i 0=q at hf;have Hq:=uQ hq;clear hq;go_enter func142,ntmps142;go_wp2_with (first|(go_at_call 90;refine hf.mono ?_;rintro e w1 ⟨v,rfl,rfl,rfl⟩)|(go_at_call 176;refine hg.mono ?_;rintro e w1 ⟨v,rfl,rfl,rfl⟩)|(go_at_call 128;fail));refine hst.mono ?_;rintro e w1 ⟨v,rfl,rfl,hS1⟩;have hlk:=aad hM.step hK zy.o ⟨s,t,i⟩ (uD hS1);rw [Nz.o,Hq.o]at hlk;go_wp2_with (go_at_call 129;go_must (refine hlk.mono ?_);rintro e w2 ⟨v2,rfl,hS2⟩);go_ret;refine ⟨errno 0,rfl,by rw [bH.o],?_⟩;rw [bH.o];exact hS2
 ·have hf:=Ad (s:=s) hR ho;have bH:Hid (M.rename s t=(M,12)):=by show _=_;simp [ay.rename,ho]
  clear ho;go_enter func142,ntmps142;go_wp2_with (first|(go_at_call 90;refine hf.mono ?_;rintro e w1 ⟨v,rfl,rfl,rfl⟩));go_ret;exact ⟨errno 12,rfl,by rw [bH.o],by rw [bH.o];exact h⟩
end
theorem Fz (hM:M.Ok K) (s:ByteArray) (h:Sat w0 w (aJ m M::F)):Calls prog 139 #[ptr m,.string s] w (aP λv w'=>v=.bool (aB.there M s)/\w=w'):=by
 have hs:=Gt hM h s;have Hf:=uQ (show aB.there M s=decide ((M.size s).2=0) from rfl);generalize M.size s=r at *
 obtain ⟨n,e⟩:=r;dsimp only at hs;have hb:(e==0)=decide (e=0):=by rw [aol,ai5,adY]
 go_enter func139,ntmps139;go_wp2_with fail;refine hs.mono ?_;rintro ee w1 ⟨v,rfl,rfl,rfl⟩;clear hs;go_wp2;go_ret;rw [Hf.o];exact ⟨_,rfl,by first|rfl|(rw [<-hb];rfl)|simp,rfl⟩
theorem ZB (hM:M.Ok K) (hK:K+4<=1099511627776) (s:ByteArray) (hs:s.size<=9223372036854775807) (b:Bs) (hr:Ro w0 F (bF 1 bv (aA b))) (hbv:∃ a n c,bv=.slice a n c) (h:Sat w0 w (aJ m M::F)) :
  Calls prog 81 #[ptr m,.string s,bv] w (aP λv w'=>v=errno (aB.write M s b).2/\Sat w0 w' (aJ m (aB.write M s b).1::F)):=by
 obtain ⟨ba,bn,bc,rfl⟩:=hbv;have Hr:=uQ hr;have Hs:=uQ hs;have hth:=Fz hM aB.tmp h;clear hr hs;cases ht:aB.there M aB.tmp with
 |false=>
  have HX:=uQ (show aB.write M s b=(if (M.create aB.tmp).2=0 then aB.fill (M.create aB.tmp).1 s b else M.create aB.tmp) by unfold aB.write aB.uF;rw [ht];rfl);rw [ht]at hth;clear ht;go_enter func81,ntmps81;go_wp2_with fail;refine hth.mono ?_;rintro ee w1 ⟨v,rfl,rfl,rfl⟩;clear hth;have hcr:=OM hM oQ h aB.tmp aN;have ok1:=hM.create aB.tmp;generalize M.create aB.tmp=r1 at *
  obtain ⟨M1,e1⟩:=r1;dsimp only at hcr ok1;clear h;go_wp2_with fail;refine hcr.mono ?_;rintro ee w3 ⟨v,rfl,rfl,h3⟩;clear hcr;by_cases c1:e1=0;rotate_left
  ·have hb1:(e1 != 0)=true:=afZ.2 c1;have HF:=uQ (show aB.write M s b=(M1,e1) from HX.o.trans (abj c1));clear c1;go_wp2;go_ret;rw [HF.o];exact ⟨_,rfl,rfl,h3⟩
  subst c1;have HY:=uQ (show aB.write M s b=aB.fill M1 s b from HX.o.trans (acg rfl));clear HX;have hap:=IZ ok1 oQ h3 aB.tmp b Hr.o;have ok2:=ok1.append aB.tmp b
  have HE:=uQ (show aB.fill M1 s b=(if (M1.append aB.tmp b).2=0 then
    (if ((M1.append aB.tmp b).1.sync aB.tmp).2=0 then ((M1.append aB.tmp b).1.sync aB.tmp).1.rename aB.tmp s else (M1.append aB.tmp b).1.sync aB.tmp)
   else if (M1.append aB.tmp b).2=11 then
    (if ((M1.append aB.tmp b).1.remove aB.tmp).2=0 then (((M1.append aB.tmp b).1.remove aB.tmp).1,11) else (M1.append aB.tmp b).1.remove aB.tmp)
   else M1.append aB.tmp b) from rfl)
  generalize M1.append aB.tmp b=r2 at *
  obtain ⟨M2,e2⟩:=r2;dsimp only at hap ok2;clear h3;go_wp2_with fail;refine hap.mono ?_;rintro ee w4 ⟨v,rfl,rfl,h4⟩;clear hap;by_cases c2:e2=0;rotate_left
  ·have hb2:(e2 != 0)=true:=afZ.2 c2;by_cases c3:e2=11
   ·subst c3;have hrm:=Dv ok2 oQ h4 aB.tmp;have HG:=uQ (show aB.write M s b=(if (M2.remove aB.tmp).2=0 then ((M2.remove aB.tmp).1,11) else M2.remove aB.tmp) from HY.o.trans (HE.o.trans ((abj c2).trans (acg rfl))));generalize M2.remove aB.tmp=r3 at *
    obtain ⟨M3,e3⟩:=r3;dsimp only at hrm;clear h4 c2 HY HE;go_wp2_with fail;refine hrm.mono ?_;rintro ee w5 ⟨v,rfl,rfl,h5⟩;clear hrm;by_cases c4:e3=0
    ·have hb3:(e3 != 0)=false:=by rw [c4];rfl
     have HF:=uQ (HG.o.trans (acg c4));clear c4;go_wp2;go_ret;rw [HF.o];exact ⟨_,rfl,rfl,h5⟩
    ·have hb3:(e3 != 0)=true:=afZ.2 c4;have HF:=uQ (HG.o.trans (abj c4));clear c4;go_wp2;go_ret;rw [HF.o];exact ⟨_,rfl,rfl,h5⟩
   ·have hb3:(e2==11)=false:=adX.2 c3;have HF:=uQ (show aB.write M s b=(M2,e2) from HY.o.trans (HE.o.trans ((abj c2).trans (abj c3))));clear c2 c3;go_wp2;go_ret;rw [HF.o];exact ⟨_,rfl,rfl,h4⟩
  subst c2;have hsy:=LJ ok2 h4 aB.tmp;have yL:=ok2.sync aB.tmp;have HG:=uQ (show aB.write M s b=(if (M2.sync aB.tmp).2=0 then (M2.sync aB.tmp).1.rename aB.tmp s else M2.sync aB.tmp) from HY.o.trans (HE.o.trans (acg rfl)));generalize M2.sync aB.tmp=r3 at *
  obtain ⟨M3,e3⟩:=r3;dsimp only at hsy yL;clear h4 HY HE;go_wp2_with fail;refine hsy.mono ?_;rintro ee w5 ⟨v,rfl,rfl,h5⟩;clear hsy;by_cases c4:e3=0;rotate_left
  ·have hb3:(e3 != 0)=true:=afZ.2 c4;have HF:=uQ (show aB.write M s b=(M3,e3) from HG.o.trans (abj c4));clear c4;go_wp2;go_ret;rw [HF.o];exact ⟨_,rfl,rfl,h5⟩
  subst c4;have hre:=abN yL oQ h5 aB.tmp s Hs.o;have HF:=uQ (show aB.write M s b=M3.rename aB.tmp s from HG.o.trans (acg rfl));generalize M3.rename aB.tmp s=r4 at *
  obtain ⟨M4,e4⟩:=r4;dsimp only at hre;clear h5;go_wp2_with fail;refine hre.mono ?_;rintro ee w6 ⟨v,rfl,rfl,h6⟩;clear hre;go_wp2;go_ret;rw [HF.o];exact ⟨_,rfl,rfl,h6⟩
 |true=>
  rw [ht]at hth;have hrm:=Dv hM oQ h aB.tmp;have okR:=hM.remove aB.tmp;have HR:=uQ (show aB.write M s b=(if (M.remove aB.tmp).2=0 then (if ((M.remove aB.tmp).1.create aB.tmp).2=0 then aB.fill ((M.remove aB.tmp).1.create aB.tmp).1 s b else (M.remove aB.tmp).1.create aB.tmp) else M.remove aB.tmp) by unfold aB.write aB.uF;rw [ht];rfl);generalize M.remove aB.tmp=r0 at *
  obtain ⟨M0,e0⟩:=r0;dsimp only at hrm okR;clear ht;go_enter func81,ntmps81;go_wp2_with fail;refine hth.mono ?_;rintro ee w1 ⟨v,rfl,rfl,rfl⟩;clear hth;go_wp2_with fail;refine hrm.mono ?_;rintro ee w2 ⟨v,rfl,rfl,h2⟩;clear hrm h;by_cases c0:e0=0;rotate_left
  ·have hb0:(e0 != 0)=true:=afZ.2 c0;have HF:=uQ (show aB.write M s b=(M0,e0) from HR.o.trans (abj c0));clear c0;go_wp2;go_ret;rw [HF.o];exact ⟨_,rfl,rfl,h2⟩
  subst c0;have HX:=uQ (show aB.write M s b=(if (M0.create aB.tmp).2=0 then aB.fill (M0.create aB.tmp).1 s b else M0.create aB.tmp) from HR.o.trans (acg rfl));clear HR;have hcr:=OM okR oQ h2 aB.tmp aN;have ok1:=okR.create aB.tmp;generalize M0.create aB.tmp=r1 at *
  obtain ⟨M1,e1⟩:=r1;dsimp only at hcr ok1;clear h2;go_wp2_with fail;refine hcr.mono ?_;rintro ee w3 ⟨v,rfl,rfl,h3⟩;clear hcr;by_cases c1:e1=0;rotate_left
  ·have hb1:(e1 != 0)=true:=afZ.2 c1;have HF:=uQ (show aB.write M s b=(M1,e1) from HX.o.trans (abj c1));clear c1;go_wp2;go_ret;rw [HF.o];exact ⟨_,rfl,rfl,h3⟩
  subst c1;have HY:=uQ (show aB.write M s b=aB.fill M1 s b from HX.o.trans (acg rfl));clear HX;have hap:=IZ ok1 oQ h3 aB.tmp b Hr.o;have ok2:=ok1.append aB.tmp b
  have HE:=uQ (show aB.fill M1 s b=(if (M1.append aB.tmp b).2=0 then
    (if ((M1.append aB.tmp b).1.sync aB.tmp).2=0 then ((M1.append aB.tmp b).1.sync aB.tmp).1.rename aB.tmp s else (M1.append aB.tmp b).1.sync aB.tmp)
   else if (M1.append aB.tmp b).2=11 then
    (if ((M1.append aB.tmp b).1.remove aB.tmp).2=0 then (((M1.append aB.tmp b).1.remove aB.tmp).1,11) else (M1.append aB.tmp b).1.remove aB.tmp)
   else M1.append aB.tmp b) from rfl)
  generalize M1.append aB.tmp b=r2 at *
  obtain ⟨M2,e2⟩:=r2;dsimp only at hap ok2;clear h3;go_wp2_with fail;refine hap.mono ?_;rintro ee w4 ⟨v,rfl,rfl,h4⟩;clear hap;by_cases c2:e2=0;rotate_left
  ·have hb2:(e2 != 0)=true:=afZ.2 c2;by_cases c3:e2=11
   ·subst c3;have hrm:=Dv ok2 oQ h4 aB.tmp;have HG:=uQ (show aB.write M s b=(if (M2.remove aB.tmp).2=0 then ((M2.remove aB.tmp).1,11) else M2.remove aB.tmp) from HY.o.trans (HE.o.trans ((abj c2).trans (acg rfl))));generalize M2.remove aB.tmp=r3 at *
    obtain ⟨M3,e3⟩:=r3;dsimp only at hrm;clear h4 c2 HY HE;go_wp2_with fail;refine hrm.mono ?_;rintro ee w5 ⟨v,rfl,rfl,h5⟩;clear hrm;by_cases c4:e3=0
    ·have hb3:(e3 != 0)=false:=by rw [c4];rfl
     have HF:=uQ (HG.o.trans (acg c4));clear c4;go_wp2;go_ret;rw [HF.o];exact ⟨_,rfl,rfl,h5⟩
    ·have hb3:(e3 != 0)=true:=afZ.2 c4;have HF:=uQ (HG.o.trans (abj c4));clear c4;go_wp2;go_ret;rw [HF.o];exact ⟨_,rfl,rfl,h5⟩
   ·have hb3:(e2==11)=false:=adX.2 c3;have HF:=uQ (show aB.write M s b=(M2,e2) from HY.o.trans (HE.o.trans ((abj c2).trans (abj c3))));clear c2 c3;go_wp2;go_ret;rw [HF.o];exact ⟨_,rfl,rfl,h4⟩
  subst c2;have hsy:=LJ ok2 h4 aB.tmp;have yL:=ok2.sync aB.tmp;have HG:=uQ (show aB.write M s b=(if (M2.sync aB.tmp).2=0 then (M2.sync aB.tmp).1.rename aB.tmp s else M2.sync aB.tmp) from HY.o.trans (HE.o.trans (acg rfl)));generalize M2.sync aB.tmp=r3 at *
  obtain ⟨M3,e3⟩:=r3;dsimp only at hsy yL;clear h4 HY HE;go_wp2_with fail;refine hsy.mono ?_;rintro ee w5 ⟨v,rfl,rfl,h5⟩;clear hsy;by_cases c4:e3=0;rotate_left
  ·have hb3:(e3 != 0)=true:=afZ.2 c4;have HF:=uQ (show aB.write M s b=(M3,e3) from HG.o.trans (abj c4));clear c4;go_wp2;go_ret;rw [HF.o];exact ⟨_,rfl,rfl,h5⟩
  subst c4;have hre:=abN yL oQ h5 aB.tmp s Hs.o;have HF:=uQ (show aB.write M s b=M3.rename aB.tmp s from HG.o.trans (acg rfl));generalize M3.rename aB.tmp s=r4 at *
  obtain ⟨M4,e4⟩:=r4;dsimp only at hre;clear h5;go_wp2_with fail;refine hre.mono ?_;rintro ee w6 ⟨v,rfl,rfl,h6⟩;clear hre;go_wp2;go_ret;rw [HF.o];exact ⟨_,rfl,rfl,h6⟩
end Go.Proofs.Y
namespace Go.aB
open Go.ay
section
variable {s:ByteArray}{b b1 b2:Bs}{K r:Nat}{M:ay}
theorem _root_.Go.Seg.Calm.rename (h:Seg.Calm K r M) (s t:ByteArray):Seg.Calm (K+1) r (M.rename s t).1:=by
 have f:=(Fits.does h.ok h.dst h.used ⟨3,s,t,0,0,[],[]⟩ (show (3:Int)≠8 by decide) (show (3:Int)≠9 by decide)).1;exact ⟨h.ok.rename s t,h.quiet.rename s t,f.dst,f.used,f.room.trans h.room⟩
theorem ahZ:good tmp=true:=by decide +kernel
theorem am9 (q:Quiet M) (h:bU M.now s=none):M.size s=(0,9):=by unfold ay.size;rw [q.off,h];rfl
theorem ana (q:Quiet M){i:Nat} (h:bU M.now s=some i):M.size s=((((M.file i).now.length:Nat):Int),0):=by unfold ay.size;rw [q.off,h];rfl
theorem TS (q:Quiet M) (h:bU M.now s=none):there M s=false:=by unfold there;rw [am9 q h];rfl
theorem ac1 (q:Quiet M){i:Nat} (h:bU M.now s=some i):there M s=true:=by unfold there;rw [ana q h];rfl
theorem aki (l:Names) (s:ByteArray) (i:Nat):(kV l s i).length<=l.length+1:=by rw [QY];have:=CW l s;omega
theorem name_eq (ld:ByteArray) (n:Int) (h1:0<=n) (h2:n<1048576):(name ld n).data.toList=ld.data.toList++Seg.iW n.toNat 8:=by
 have hs:=Seg.Pj n h1 h2;have hne:=rE hs;unfold name;rw [abj hne];have e:Seg.name n=⟨(Seg.lead++Seg.iW n.toNat 8).toArray⟩:=by unfold Seg.name;rw [abj oQ]
 rw [e];rw [ByteArray.data_append,ap3,ByteArray.data_extract,Array.toList_extract];show _++(List.extract (Seg.lead++Seg.iW n.toNat 8) 4 12)=_
 congr 1
theorem agH (n k:Nat):(Seg.iW n k).all oO=true:=by
 rw [ae0];intro c hc;have:=(ae0.1 (Seg.OQ k n)) c hc;unfold Seg.nJ at this;rw [aev,adY,adY]at this;unfold oO;have e1:(48:UInt8)<=c:=UInt8.le_iff_toNat_le.2 this.1;have e2:c<=57:=UInt8.le_iff_toNat_le.2 this.2;simp [e1,e2]
theorem Aw {ld:ByteArray} (hl:ld.data.toList.length=4) (hg:ld.data.toList.all oO=true) (n:Int) (h1:0<=n) (h2:n<1048576):good (name ld n)=true:=by
 have e:=name_eq ld n h1 h2;have hs:(name ld n).size=12:=by
  show (name ld n).data.size=12;rw [<-ad4,e,aaL,hl,Seg.wJ]
 unfold good;rw [hs,e,aiJ,hg,agH]
 rfl
theorem um {ld:ByteArray} (hl:ld.data.toList=[105,100,120,46]\/ld.data.toList=[117,115,101,46]) (n:Int) (h1:0<=n) (h2:n<1048576):number (name ld n)=(n,true):=by
 have e:=name_eq ld n h1 h2;have hs:=Seg.Ku n h1 h2;have e2:Seg.name n=⟨(Seg.lead++Seg.iW n.toNat 8).toArray⟩:=by unfold Seg.name;rw [abj oQ]
 rw [e2]at hs;unfold number;rw [e];rcases hl with hl|hl
 ·rw [hl,acg (.inl rfl)];exact hs
 ·rw [hl,acg (.inr rfl)];exact hs
theorem yK (n:Int):number (Seg.name n)=(0,false):=by
 unfold number;rcases Lh n with h|⟨_,h⟩
 ·rw [h,abj aN]
 ·rw [h,abj aN]
theorem aaX:number tmp=(0,false):=by
 unfold number;rw [abj aN]
theorem Rh {n:Int}{s:ByteArray} (h:(number s).2=false):other n s=false:=by unfold other;rw [h];rfl
theorem aa9 {n:Int}{s:ByteArray} (h:number s=(n,true)):other n s=false:=by unfold other;rw [h];simp
theorem yF:idx.data.toList=[105,100,120,46]:=rfl
theorem GL:use.data.toList=[117,115,101,46]:=rfl
theorem ajW (n:Int) (h1:0<=n) (h2:n<1048576):name idx n≠name use n:=λe=>by
 have a:=name_eq idx n h1 h2;rw [e,name_eq use n h1 h2,yF,GL]at a;simp at a
theorem Lj (m n:Int) (h1:0<=n) (h2:n<1048576):Seg.name m≠name idx n:=λe=>by
 have a:=um (.inl yF) n h1 h2;rw [<-e,yK]at a;simp at a
theorem Ll (m n:Int) (h1:0<=n) (h2:n<1048576):Seg.name m≠name use n:=λe=>by
 have a:=um (.inr GL) n h1 h2;rw [<-e,yK]at a;simp at a
theorem Qh (n:Int) (h1:0<=n) (h2:n<1048576):name idx n≠tmp:=λe=>by
 have a:=um (.inl yF) n h1 h2;rw [e,aaX]at a;simp at a
theorem Um (n:Int) (h1:0<=n) (h2:n<1048576):name use n≠tmp:=λe=>by
 have a:=um (.inr GL) n h1 h2;rw [e,aaX]at a;simp at a
end
end Go.aB
namespace Go.Proofs.Y
open Go.ay
abbrev nS (b ps:Nat):aG:=pt b (.cells #[ptr ps] 33 (0,0))
theorem aiD (f:ByteArray) (hf:f.size<=4000000000) (h:Sat w0 w (nS b3 ps::cO ps n pi uv tv::F)) :
  Calls prog 84 #[.string f,ptr b3] w (aP λv w'=>v=.bool (aB.other n f)/\Sat w0 w' (nS b3 ps::cO ps n pi uv tv::F)):=by
 have Ho:=uQ (show aB.other n f=((aB.number f).2 && (aB.number f).1 != n) from rfl);have hn:=Zl f hf h;generalize aB.number f=q at *
 obtain ⟨x,t⟩:=q;dsimp only at hn;clear h;go_enter func84,ntmps84;go_wp2_with fail;refine hn.mono ?_;rintro ee w1 ⟨v,rfl,rfl,h1⟩;clear hn;cases t with
 |false=>
  go_wp2_with fail;go_ret;exact ⟨_,rfl,by rw [Ho.o];rfl,h1⟩
 |true=>
  have e1:w1.cell? ⟨b3,0,none⟩=some (.pointer (some ⟨ps,0,none⟩)):=h1.cellP aU 0 rfl;have e2:w1.cell? ⟨ps,0,none⟩=some (.int .i64 n):=h1.cellP bf 0 rfl;go_wp2_with fail;go_ret;exact ⟨_,rfl,by rw [Ho.o];rfl,h1⟩
theorem aks (hM:M.Ok K) (s:ByteArray) (b:aj.Bs):(aB.fill M s b).1.Ok (K+3):=by
 unfold aB.fill;split
 ·split
  ·exact ((hM.append _ _).sync _).rename _ _
  ·exact ((hM.append _ _).sync _).mono oQ
 ·split
  ·split
   ·exact ((hM.append _ _).remove _).mono oQ
   ·exact ((hM.append _ _).remove _).mono oQ
  ·exact (hM.append _ _).mono oQ
theorem aa6 (hM:M.Ok K) (s:ByteArray) (b:aj.Bs):(aB.write M s b).1.Ok (K+5):=by
 have hr:(aB.uF M).1.Ok (K+1):=by
  unfold aB.uF;split
  ·exact hM.remove _
  ·exact hM.mono oQ
 unfold aB.write;split
 ·split
  ·exact aks (hr.create _) _ _
  ·exact (hr.create _).mono oQ
 ·exact hr.mono oQ
theorem J7 {ld:ByteArray} (hl:ld.data.toList.length=4) (hg:ld.data.toList.all oO=true) (h1:0<=n) (h2:n<1048576):(aB.name ld n).size<=24/\((aB.name ld n).toList==[])=false:=by
 have h:=aB.Aw hl hg n h1 h2;unfold good at h;simp only [aev,adY]at h;refine ⟨h.1.2,?_⟩;rw [adX,ByteArray.toList_eq];intro e;have:=aey List.length e;rw [ad4]at this;have h3:(aB.name ld n).size=0:=this;omega
theorem anC (hM:M.Ok K) (hK:K+500<=1099511627776) (hno:∀ f∈M.list,f.size<=4000000000) (h:Sat w0 w (aJ m M::nS b3 ps::cO ps n pi uv tv::F)) :
  Calls prog 83 #[ptr m,.func (.func 84) #[] #[ptr b3]] w (aP λv w'=>v=errno (aB.sweep (aB.other n) M.list M).2/\Sat w0 w' (aJ m (aB.sweep (aB.other n) M.list M).1::nS b3 ps::cO ps n pi uv tv::F)):=by
 have hls:=JY hM h;have Hlen:=uQ (aaf hM);have Hn:=uQ hno;have HK:=uQ hK;have HM:=uQ hM;clear hno hM hK;generalize M.list=l at *
 obtain ⟨R,hR⟩:∃ R,aB.sweep (aB.other n) l M=R:=⟨_,rfl⟩;have HR:=uQ hR;rw [hR];clear hR;go_enter func83,ntmps83;go_wp2_with fail;refine hls.mono ?_;rintro e w1 ⟨v,rfl,hS,_⟩;clear hls h;obtain ⟨a,c,rfl⟩:=aaM (Sat.rd hS);go_wp2_with fail
 go_loopg [11] l.length (λg iq wr=>∃ (i:Nat) (M2:ay),g=l.length-i/\i<=l.length/\iq=.int .i64 i/\(aB.sweep (aB.other n) (l.drop i) M2=R/\M2.Ok (K+i))/\Sat w0 wr (aC 9 1 (.slice a l.length c) (strs l)::aJ m M2::nS b3 ps::cO ps n pi uv tv::F))
 case atStart=>exact ⟨0,M,rfl,aea _,rfl,⟨by rw [apN];exact HR.o,HM.o⟩,hS⟩
 case round=>
  obtain ⟨i,M2,rfl,hi,rfl,⟨hsw,hok⟩,hS2⟩:=hrel;clear hS;by_cases hlt:i<l.length
  ·have c1:(i:Int)<(l.length:Int):=by omega
   have hwi:IntKind.i64.wrap ((i:Int)+1)=(i:Int)+1:=adr _ yM0;obtain ⟨s,hs⟩:∃ s,l[i]?=some s:=⟨_,aay hlt⟩;obtain ⟨bk,off,rfl,hc⟩:=QV (Sat.rd hS2) hs;have hsz:=Hn.o s (abA hs);have hd:l.drop i=s::l.drop (i+1):=by
    rw [ah3 hlt];rw [aay hlt]at hs;cases hs;rfl
   rw [hd]at hsw;have bT:=uQ hlt;have dB:=uQ hok;have hcl:=aiD s hsz (hS2.sb:Sat w0 wr (nS b3 ps::cO ps n pi uv tv::aC 9 1 (.slice (some ⟨bk,off,none⟩) l.length c) (strs l)::aJ m M2::F));cases hso:aB.other n s with
   |false=>
    have zI:=uQ (show aB.sweep (aB.other n) (l.drop (i+1)) M2=R by unfold aB.sweep at hsw;rwa [abj (by rw [hso];decide)]at hsw);rw [hso]at hcl;clear hs hlt hi hso hsw hd hok;go_wp2_with fail;refine hcl.mono ?_;rintro e w2 ⟨v,rfl,rfl,hS3⟩;clear hS2 hc hcl;go_wp2_with fail
    go_roundg (l.length-(i+1))
    case measure=>have:=bT.o;omega
    case rel=>exact ⟨i+1,M2,rfl,aec bT.o,by first|rfl|go_num,⟨zI.o,dB.o.mono oQ⟩,hS3.sb⟩
   |true=>
    have zI:=uQ (show (if (M2.remove s).2=0 then aB.sweep (aB.other n) (l.drop (i+1)) (M2.remove s).1 else M2.remove s)=R by unfold aB.sweep at hsw;rwa [acg hso]at hsw);rw [hso]at hcl;have NP:=uQ (λ(w':World) (hw:Sat w0 w' (aJ m M2::nS b3 ps::cO ps n pi uv tv::aC 9 1 (.slice (some ⟨bk,off,none⟩) l.length c) (strs l)::F))=>Dv hok (by have:=HK.o;have:=Hlen.o;omega) hw s);have ru:=uQ (hok.remove s);generalize M2.remove s=q at *
    obtain ⟨M3,q3⟩:=q;dsimp only at NP ru zI;clear hlt hi hso hsw hd hok;go_wp2_with fail;refine hcl.mono ?_;rintro e w2 ⟨v,rfl,rfl,hS3⟩;clear hS2 hcl;have hS4:Sat w0 w2 (aC 9 1 (.slice (some ⟨bk,off,none⟩) l.length c) (strs l)::aJ m M2::nS b3 ps::cO ps n pi uv tv::F):=hS3.sb;obtain ⟨Oy,off',PI,hc'⟩:=QV (Sat.rd hS4) hs;cases PI;by_cases c3:q3=0
    ·have hb1:(q3 != 0)=false:=by rw [c3];rfl
     have rY:=uQ (show aB.sweep (aB.other n) (l.drop (i+1)) M3=R from (acg c3).symm.trans zI.o);clear c3 hc hs zI;go_wp2_with fail;refine (NP.o _ (hS3.sb)).mono ?_;rintro e w3 ⟨v,rfl,rfl,hS5⟩;clear hS3 hS4 hc';go_wp2_with fail
     go_roundg (l.length-(i+1))
     case measure=>have:=bT.o;omega
     case rel=>exact ⟨i+1,M3,rfl,aec bT.o,by first|rfl|go_num,⟨rY.o,ru.o⟩,hS5.sb⟩
    ·have hb1:(q3 != 0)=true:=afZ.2 c3;have rY:=uQ (show (M3,q3)=R from (abj c3).symm.trans zI.o);clear c3 hc hs zI;go_wp2_with fail;refine (NP.o _ (hS3.sb)).mono ?_;rintro e w3 ⟨v,rfl,rfl,hS5⟩;clear hS3 hS4 hc';go_wp2_with fail;go_ret;exact ⟨_,rfl,by rw [<-rY.o];rfl,by rw [<-rY.o];exact hS5.sb⟩
  ·have c1:¬ (i:Int)<(l.length:Int):=by omega
   obtain rfl:i=l.length:=by omega
   have rY:=uQ (show (M2,0)=R by rw [apH]at hsw;exact hsw);clear hlt hi hsw hok;go_wp2_with fail;go_ret;exact ⟨_,rfl,by rw [<-rY.o];rfl,by rw [<-rY.o];exact hS2.drop⟩
theorem P9 (hM:M.Ok K) (hK:K+600<=1099511627776) (hn0:0<=n) (hn1:n<1048576) (kv:List (aj.Bs×Seg.aV)) (hl:Tab.Lists mp kv) (hB:B<=13000000) (hk:∀ q∈kv,q.1.length=32) (us:List Rep.Use) (hoi:aT.Ok 3 true (kv.map Rep.ji)) (hou:aT.Ok 3 false (us.map Rep.jl))
  (bi bu:aj.Bs) (hbi:bi=aT.book Xx.sum aT.qL true (kv.map Rep.ji)) (hbu:bu=aT.book Xx.sum aT.qM false (us.map Rep.jl))
  (hno:∀ f∈(aB.write (aB.write M (aB.name aB.idx n) bi).1 (aB.name aB.use n) bu).1.dR.1.list,f.size<=4000000000)
  (h:Sat w0 w (cO ps n pi uv tv::aH pi mp B::aC 45 3 uv (us.flatMap bG)::aJ m M::F)) :
  Calls prog 40 #[ptr m,ptr ps] w (aP λv w'=>v=errno (aB.save M n bi bu).2/\Sat w0 w' (cO ps n pi uv tv::aH pi mp B::aC 45 3 uv (us.flatMap bG)::aJ m (aB.save M n bi bu).1::F)):=by
 obtain ⟨z1,z2⟩:=J7 (ld:=aB.idx) rfl aN hn0 hn1;obtain ⟨z3,_⟩:=J7 (ld:=aB.use) rfl aN hn0 hn1;have hkl:kv.length<=13000000:=by have:=hoi.len;rw [aa4]at this;omega
 have HM:=uQ hM;have HK:=uQ hK;have Hl:=uQ hl;have HB:=uQ hB;have Hk:=uQ hk;have rW:=uQ hoi;have rX:=uQ hou;have Hno:=uQ hno;have mG:=uQ hkl;have Hbi:=uQ hbi;have Hbu:=uQ hbu;have pU:=uQ z1;have Hz3:=uQ z3;have IC:=uQ (λ(w':World) (R:List aG) (hw:Sat w0 w' R)=>JL n hw);have Hum:=uQ (λ(w':World) (R:List aG) (hw:Sat w0 w' R)=>LU n hw);have HS:=uQ (show aB.save M n bi bu=if (aB.write M (aB.name aB.idx n) bi).2=0 then aB.Tt (aB.write M (aB.name aB.idx n) bi).1 n bu else aB.write M (aB.name aB.idx n) bi from rfl);clear hM hK hl hB hk hoi hou hno hbi hbu hkl z1 z3;generalize hni:aB.name aB.idx n=ni at *
 generalize hnu:aB.name aB.use n=nu at *
 have Hnu:=uQ hnu;clear hni hnu;go_enter func40,ntmps40;go_wp2_with (with_reducible apply fD);refine ⟨fE h ah ah ?_⟩;intro b3 w3 h3;replace h3:Sat w0 w3 (nS b3 ps::cO ps n pi uv tv::aH pi mp B::aC 45 3 uv (us.flatMap bG)::aJ m M::F):=h3;clear h;have e1:w3.cell? ⟨b3,0,none⟩=some (.pointer (some ⟨ps,0,none⟩)):=h3.cellP aU 0 rfl;have e2:w3.cell? ⟨ps,1,none⟩=some (.pointer (some ⟨pi,0,none⟩)):=h3.cellP bf 1 rfl;have e3:w3.cell? ⟨ps,0,none⟩=some (.int .i64 n):=h3.cellP bf 0 rfl;go_wp2_with fail;refine (IC.o _ _ h3).mono ?_;rintro ee w4 ⟨v,rfl,rfl,h4⟩;clear h3 e1 e2 e3;have e1:w4.cell? ⟨b3,0,none⟩=some (.pointer (some ⟨ps,0,none⟩)):=h4.cellP aU 0 rfl;have e2:w4.cell? ⟨ps,1,none⟩=some (.pointer (some ⟨pi,0,none⟩)):=h4.cellP bf 1 rfl;go_wp2_with fail
 refine (aiB Hl.o HB.o mG.o Hk.o (h4.sb:Sat w0 w4 (aH pi mp B::nS b3 ps::cO ps n pi uv tv::aC 45 3 uv (us.flatMap bG)::aJ m M::F))).mono ?_;rintro ee w5 ⟨rv,rfl,h5⟩;clear h4 e1 e2;go_wp2_with fail;refine (afN kv Hk.o rW.o (λw hw=>Sat.rd hw) h5).mono ?_;rintro ee w6 ⟨v,rfl,iv,rfl,h6⟩;clear h5;rw [<-Hbi.o]at h6;replace h6:Sat w0 w6 (jB iv bi::nS b3 ps::cO ps n pi uv tv::aH pi mp B::aC 45 3 uv (us.flatMap bG)::aJ m M::F):=h6.sb;have e1:w6.cell? ⟨b3,0,none⟩=some (.pointer (some ⟨ps,0,none⟩)):=h6.cellP bf 0 rfl;have e2:w6.cell? ⟨ps,2,none⟩=some uv:=h6.cellP eH 2 rfl;go_wp2_with fail;refine (afU us rX.o (λw hw=>Sat.rd (hw.sb:Sat w0 w (aC 45 3 uv (us.flatMap bG)::jB iv bi::nS b3 ps::cO ps n pi uv tv::aH pi mp B::aJ m M::F))) h6).mono ?_;rintro ee w7 ⟨v,rfl,uw,rfl,h7⟩;clear h6 e1 e2;rw [<-Hbu.o]at h7
 have e1:w7.cell? ⟨b3,0,none⟩=some (.pointer (some ⟨ps,0,none⟩)):=h7.cellP eH 0 rfl;have e3:w7.cell? ⟨ps,0,none⟩=some (.int .i64 n):=h7.cellP iO 0 rfl;go_wp2_with fail;refine (IC.o _ _ h7).mono ?_;rintro ee w8 ⟨v,rfl,rfl,h8⟩;clear h7 e1 e3;replace h8:Sat w0 w8 (aJ m M::jB uw bu::jB iv bi::nS b3 ps::cO ps n pi uv tv::aH pi mp B::aC 45 3 uv (us.flatMap bG)::F):=h8.sb;have qJ:=(RS.Q7 (h8.sb:Sat w0 w8 (jB iv bi::aJ m M::jB uw bu::nS b3 ps::cO ps n pi uv tv::aH pi mp B::aC 45 3 uv (us.flatMap bG)::F)));obtain ⟨ia,il,ic,rfl,_,_⟩:=qJ.cap;have hw1:=ZB HM.o (by have:=HK.o;omega) ni yU0 bi (bv:= .slice ia il ic) (λw hw=>Oi (hw.sb:Sat w0 w (jB (.slice ia il ic) bi::jB uw bu::nS b3 ps::cO ps n pi uv tv::aH pi mp B::aC 45 3 uv (us.flatMap bG)::F))) ⟨_,_,_,rfl⟩ h8;have ok1:=aa6 HM.o ni bi;clear qJ;generalize aB.write M ni bi=r1 at *
 obtain ⟨M1,q1⟩:=r1;dsimp only at hw1 ok1 HS Hno;go_wp2_with fail;refine hw1.mono ?_;rintro ee w9 ⟨v,rfl,rfl,h9⟩;clear hw1 h8;by_cases c1:q1=0;rotate_left
 ·have hb1:(q1 != 0)=true:=afZ.2 c1;have HF:=uQ (show aB.save M n bi bu=(M1,q1) from HS.o.trans (abj c1));clear c1;go_wp2_with fail;go_ret;exact ⟨_,rfl,by rw [HF.o];rfl,by rw [HF.o];exact h9.sb⟩
 ·have Ea:=uQ (show aB.save M n bi bu=(if (aB.write M1 (aB.name aB.use n) bu).2=0 then aB.Tv (aB.write M1 (aB.name aB.use n) bu).1 n else aB.write M1 (aB.name aB.use n) bu) from HS.o.trans (acg c1));rw [Hnu.o]at Ea;subst c1;have e1:w9.cell? ⟨b3,0,none⟩=some (.pointer (some ⟨ps,0,none⟩)):=h9.cellP iO 0 rfl;have e3:w9.cell? ⟨ps,0,none⟩=some (.int .i64 n):=h9.cellP (aS iO) 0 rfl;go_wp2_with fail;refine (Hum.o _ _ h9).mono ?_;rintro ee w10 ⟨v,rfl,rfl,h10⟩;clear h9 e1 e3;replace h10:Sat w0 w10 (aJ m M1::jB uw bu::nS b3 ps::cO ps n pi uv tv::aH pi mp B::aC 45 3 uv (us.flatMap bG)::F):=h10.sb;have qJ:=(RS.Q7 (h10.sb:Sat w0 w10 (jB uw bu::aJ m M1::nS b3 ps::cO ps n pi uv tv::aH pi mp B::aC 45 3 uv (us.flatMap bG)::F)));obtain ⟨ua,ul,uc,rfl,_,_⟩:=qJ.cap
  have hw2:=ZB ok1 (by have:=HK.o;omega) nu (by have:=Hz3.o;omega) bu (bv:= .slice ua ul uc) (λw hw=>Oi (hw.sb:Sat w0 w (jB (.slice ua ul uc) bu::nS b3 ps::cO ps n pi uv tv::aH pi mp B::aC 45 3 uv (us.flatMap bG)::F))) ⟨_,_,_,rfl⟩ h10;have ok2:=aa6 ok1 nu bu;clear qJ HS;generalize aB.write M1 nu bu=r2 at *
  obtain ⟨M2,q2⟩:=r2;dsimp only at hw2 ok2 Ea Hno;go_wp2_with fail;refine hw2.mono ?_;rintro ee iH ⟨v,rfl,rfl,h11⟩;clear hw2 h10;by_cases c2:q2=0;rotate_left
  ·have hb1:(q2 != 0)=true:=afZ.2 c2;have HF:=uQ (show aB.save M n bi bu=(M2,q2) from Ea.o.trans (abj c2));clear c2;go_wp2_with fail;go_ret;exact ⟨_,rfl,by rw [HF.o];rfl,by rw [HF.o];exact h11.sb⟩
  ·have HS2:=uQ (show aB.save M n bi bu=(if M2.dR.2=0 then aB.sweep (aB.other n) M2.dR.1.list M2.dR.1 else M2.dR) from Ea.o.trans (acg c2));subst c2;have hsd:=TQ ok2 h11;have yL:=ok2.dR;clear Ea;generalize M2.dR=r3 at *
   obtain ⟨M3,q3⟩:=r3;dsimp only at hsd yL HS2 Hno;go_wp2_with fail;refine hsd.mono ?_;rintro ee w12 ⟨v,rfl,rfl,h12⟩;clear hsd h11;by_cases c3:q3=0;rotate_left
   ·have hb1:(q3 != 0)=true:=afZ.2 c3;have HF:=uQ (show aB.save M n bi bu=(M3,q3) from HS2.o.trans (abj c3));clear c3;go_wp2_with fail;go_ret;exact ⟨_,rfl,by rw [HF.o];rfl,by rw [HF.o];exact h12.sb⟩
   ·have HF:=uQ (show aB.save M n bi bu=aB.sweep (aB.other n) M3.list M3 from HS2.o.trans (acg c3));subst c3;have hsw:=anC yL (by have:=HK.o;omega) Hno.o (h12.sb:Sat w0 w12 (aJ m M3::nS b3 ps::cO ps n pi uv tv::aH pi mp B::aC 45 3 uv (us.flatMap bG)::F));generalize aB.sweep (aB.other n) M3.list M3=r4 at *
    obtain ⟨M4,q4⟩:=r4;dsimp only at hsw HF;go_wp2_with fail;refine hsw.mono ?_;rintro ee jM ⟨v,rfl,rfl,h13⟩;clear hsw;go_wp2_with fail;go_ret;exact ⟨_,rfl,by rw [HF.o];rfl,by rw [HF.o];exact h13.sb⟩
end Go.Proofs.Y
namespace Go.Rep
open Go.aj (Bs dD aI dI encs gu)
open Go.Seg (aV mag)
open Go.Tab
def gG:Nat->List (List aI)->List Row
 |_,[]=>[]
 |k,es::C=>((dI es 8).map λf=>((k:Int),f))++gG (k+1) C
section
variable {C:List (List aI)}{bt:Told}{k n:Nat}
theorem Sv:∀ (k:Nat) (C:List (List aI)),(gG k C).map (·.2.e)=C.flatten
 |_,[]=>rfl
 |k,es::C=>by
  unfold gG;rw [adU,aeW,Sv (k+1) C,ao1]
  congr 1
  exact aj.yA es 8
theorem SH:∀ (C:List (List aI)) (k:Nat),(∀ j es,C[j]?=some es->bt ((k+j:Nat):Int)=(mag++encs es,0)/\∀ x∈es,gu x)->rowsOf bt ((List.range' k C.length).map λi=>((i:Nat):Int))=gG k C
 |[],k,_=>rfl
 |es::C,k,h=>by
  have h0:=h 0 es rfl;rw [ai6]at h0;have ih:=SH C (k+1) λj fs hj=>by
   have:=h (j+1) fs zD0
   rwa [show k+(j+1)=k+1+j by omega]at this
  rw [aep,List.range'_succ,ad7];show ((aj.scan (bt (k:Int)).1).1.map λf=>((k:Int),f))++rowsOf bt ((List.range' (k+1) C.length).map λi=>((i:Nat):Int))=_;rw [ih,h0.1,aj.Le es h0.2]
  rfl
def mJ (es:List aI):Bool:=match es.getLast? with
 |some x=>x.tag==2
 |none=>false
theorem ag5 (es:List aI) (a:Nat):yw (dI es a)=mJ es:=by
 unfold yw mJ;have h:(dI es a).getLast?.map (·.e)=es.getLast?:=by rw [<-aqi,aj.yA]
 cases hl:(dI es a).getLast? with
 |none=>rw [hl]at h;rw [<-h];rfl
 |some f=>rw [hl]at h;rw [<-h];rfl
theorem TJ {ns:List Int} (hl:ns.length=C.length) (h:∀ j es,C[j]?=some es->bt (ns.getD j 0)=(mag++encs es,0)/\∀ x∈es,gu x):∀ i,i<=C.length ->
  ∃ n,split bt ns i=(n,0)/\n<=i/\(n≠0->∃ es,C[n-1]?=some es/\mJ es=true)/\∀ j es,n<=j->j<i->C[j]?=some es->mJ es=false
 |0,_=>⟨0,rfl,abl _,λh=>absurd rfl h,λj es h1 h2=>by omega⟩
 |i+1,hi=>by
  obtain ⟨es,he⟩:∃ es,C[i]?=some es:=⟨_,aay oQ⟩;obtain ⟨h1,h2⟩:=h i es he;have hu:split bt ns (i+1)=if mJ es=true then (i+1,0) else split bt ns i:=by
   rw [split,h1,abj yF0,aj.Le es h2];simp only [ag5,true_and]
  rw [hu];cases hc:mJ es with
  |true=>exact ⟨i+1,rfl,abl _,λ_=>⟨es,he,hc⟩,λj fs a b=>by omega⟩
  |false=>
   obtain ⟨n,a,b,c,d⟩:=TJ hl h i oQ;refine ⟨n,a,by omega,c,λj fs p q r=>?_⟩;by_cases e:j=i
   ·subst e;rw [he]at r;cases r;exact hc
   ·exact d j fs p oQ r
theorem WB {ns:List Int} (h:∀ (j:Nat) (s:Int),ns[j]?=some s->∃ es,bt s=(mag++encs es,0)/\∀ x∈es,gu x):bad bt ns=none:=by
 induction ns with
 |nil=>rfl
 |cons s ns ih=>
  obtain ⟨es,h1,h2⟩:=h 0 s rfl;unfold bad;rw [h1,abj yF0,aj.Le es h2];simp only;rw [abj yF0];exact ih λj t hj=>h (j+1) t zD0
def pF:List aI->Bs->Option aI
 |[],_=>none
 |x::l,k=>match pF l k with
  |some y=>some y
  |none=>if x.tag≠2/\x.key=k then some x else none
theorem QO:∀ (l:List Row) (k:Bs),(newest l k).map (·.2.e)=pF (l.map (·.2.e)) k
 |[],_=>rfl
 |r::l,k=>by
  have ih:=QO l k;unfold newest;rw [ad7]
  conv=>rhs;unfold pF
  rw [<-ih];cases newest l k with
  |some x=>rfl
  |none=>
   simp only [aoC];unfold dM fU;split <;> rfl
theorem ajs (a b:List aI) (k:Bs):pF (a++b) k=match pF b k with
  |some y=>some y
  |none=>pF a k:=by
 induction a with
 |nil=>cases h:pF b k <;> simp [pF,h]
 |cons x a ih=>
  rw [aeI]
  conv=>lhs;unfold pF
  rw [ih];cases h:pF b k with
  |some y=>rfl
  |none=>simp only;conv=>rhs;unfold pF
theorem Qo (a:List aI) (x:aI) (k:Bs):pF (a++[x]) k=if x.tag≠2/\x.key=k then some x else pF a k:=by
 rw [ajs];unfold pF;simp only [pF];split
 ·rename_i y h;split at h
  ·rename_i h2;rw [acg h2];exact h.symm
  ·cases h
 ·rename_i h;split at h
  ·cases h
  ·rename_i h2;rw [abj h2]
theorem KR:∀ (C:List (List aI)) (k:Nat){r:Row},r∈gG k C->∃ j es,C[j]?=some es/\r.1=((k+j:Nat):Int)/\r.2∈dI es 8
 |[],_,r,h=>by cases h
 |es::C,k,r,h=>by
  unfold gG at h;rcases aeg.1 h with h|h
  ·obtain ⟨f,hf,rfl⟩:=abL.1 h;exact ⟨0,es,rfl,by simp,hf⟩
  ·obtain ⟨j,fs,h1,h2,h3⟩:=KR C (k+1) h;exact ⟨j+1,fs,by simpa using h1,by rw [h2];congr 1;omega,h3⟩
theorem Ce:∀ (es:List aI) (a:Nat){f:dD},f∈dI es a->∃ u v,es=u++f.e::v/\f.at_=a+(encs u).length/\f.size=(aj.encode f.e).1.length
 |[],_,f,h=>by cases h
 |x::es,a,f,h=>by
  unfold dI at h;rcases ad5.1 h with rfl|h
  ·exact ⟨[],es,rfl,rfl,rfl⟩
  ·obtain ⟨u,v,h1,h2,h3⟩:=Ce es _ h;refine ⟨x::u,v,by rw [h1];rfl,?_,h3⟩;have e:encs (x::u)=(aj.encode x).1++encs u:=rfl;rw [h2,e,aaL];omega
end
end Go.Rep
namespace Go.Seg
open Go.ay
open Go.aj (encs gu dI)
section
variable {n:Nat}{M:ay}{L:Log}{C:List (List aj.aI)}
theorem anS (n i:Nat):((List.range' 0 n).map λi=>((i:Nat):Int)).take i=(List.range' 0 (min i n)).map λi=>((i:Nat):Int):=by
 rw [<-aoU]
 congr 1
 apply apu;intro j;rw [aeY];by_cases h1:j<n
 ·by_cases h2:j<i
  ·rw [acg h2,List.getElem?_range' h1,List.getElem?_range' oQ]
  ·rw [abj h2,aiH (by rw [aqb];omega)]
 ·rw [aiH (by rw [aqb];omega),aiH (by rw [aqb];omega)];split <;> rfl
end
structure HG (K r E B n:Nat) (L:Log) (M:ay) (C:List (List aj.aI)):Prop where
 keeps:Keeps K r L M
 len:L.l.length=C.length
 at_:∀ (k:Nat) (es:List aj.aI),C[k]?=some es->L.l[k]?=some ((k:Int),8+((encs es).length:Int))
 file:∀ (k:Nat) (es:List aj.aI),C[k]?=some es->M.all (name k)=(mag++encs es,0)
 good:∀ es∈C,(∀ x∈es,gu x)/\es≠[]
 count:C.length<=n
 used:M.used<=n*400+B
 names:M.now.length<=n+E
 cover:∀ (k i:Nat),k<1048576->bU M.now (name (k:Int))=some i->k<C.length
section
variable {K r E B n:Nat}{L:Log}{M:ay}{C:List (List aj.aI)}
theorem HG.mono {K' E' B' n':Nat} (h:HG K r E B n L M C) (h1:K<=K') (h2:E<=E') (h3:B<=B') (h4:n<=n'):HG K' r E' B' n' L M C:=
 ⟨h.keeps.mono h1,h.len,h.at_,h.file,h.good,adt h.count h4,adt h.used (Nat.add_le_add (ae4 400 h4) h3),adt h.names oQ,h.cover⟩
theorem HG.next (h:HG K r E B n L M C):L.next=C.length:=by
 unfold Log.next;cases hl:L.l.getLast? with
 |none=>
  have:=ahP.1 hl;have h2:=h.len;rw [this]at h2;simp only [aeL]at h2;simp only;omega
 |some s=>
  rw [aeH]at hl;have hlt:=(abm.1 hl).1;have h2:=h.len;have hc:C[L.l.length-1]?=some (C[L.l.length-1]'oQ):=aay oQ;have h3:=h.at_ _ _ hc;rw [hl]at h3;cases h3;simp only;omega
theorem HG.aF (h:HG K r E B n L M C):L.aF.length=C.length/\∀ k,k<C.length->L.aF[k]?=some (k:Int):=by
 unfold Log.aF;refine ⟨by rw [aa4];exact h.len,λk hk=>?_⟩;rw [adW,h.at_ k _ (aay hk)];rfl
theorem HG.at_k (h:HG K r E B n L M C){k:Nat}{es:List aj.aI} (hk:C[k]?=some es):L.at (k:Int)=some k:=by
 have h1:=h.at_ k es hk;cases hat:L.at (k:Int) with
 |none=>
  exfalso;unfold Log.at at hat;rw [List.findIdx?_eq_none_iff]at hat;have:=hat _ (abA h1);simp at this
 |some i=>
  obtain ⟨h2,s,h3,h4⟩:=Log.zT hat;have h5:i<C.length:=by rw [<-h.len];exact h2
  have h6:=h.at_ i _ (aay h5);rw [h6]at h3;cases h3;simp only at h4
  congr 1
  omega
theorem HG.bytes (h:HG K r E B n L M C){k:Nat}{es:List aj.aI} (hk:C[k]?=some es):L.bytes M (k:Int)=(mag++encs es,0):=by
 unfold Log.bytes;rw [h.at_k hk];exact h.file k es hk
theorem HG.size (h:HG K r E B n L M C){k:Nat}{es:List aj.aI} (hk:C[k]?=some es):L.size (k:Int)=((mag++encs es).length:Nat):=by
 unfold Log.size;rw [h.at_k hk];have h1:=h.at_ k es hk;simp only [adT,h1,apd,aaL];have:mag.length=8:=rfl;omega
theorem HG.ns (h:HG K r E B n L M C):L.aF=(List.range' 0 C.length).map λi=>((i:Nat):Int):=by
 obtain ⟨h1,h2⟩:=h.aF;apply apu;intro i;by_cases hi:i<C.length
 ·rw [h2 i hi,adW,List.getElem?_range' hi];simp
 ·rw [aiH oQ,aiH (by rw [aa4,aqb];omega)]
theorem HG.told (h:HG K r E B n L M C):∀ j es,C[j]?=some es->L.bytes M (L.aF.getD j 0)=(mag++encs es,0)/\∀ x∈es,gu x:=λj es hj=>by
 have hl:=(abm.1 hj).1;rw [List.getD,h.aF.2 j hl];exact ⟨h.bytes hj,(h.good es (abA hj)).1⟩
theorem HG.rows (h:HG K r E B n L M C) (i:Nat):Rep.rowsOf (λs=>L.bytes M s) (L.aF.take i)=Rep.gG 0 (C.take i):=by
 have e:L.aF.take i=(List.range' 0 (C.take i).length).map λi=>((i:Nat):Int):=by
  rw [h.ns,anS,ads]
 rw [e];refine Rep.SH (C.take i) 0 λj es hj=>?_;have hj':C[j]?=some es:=by
  rw [aeY]at hj;split at hj
  ·exact hj
  ·cases hj
 rw [ad8];exact ⟨h.bytes hj',(h.good es (abA hj')).1⟩
theorem HG.bad (h:HG K r E B n L M C) (i:Nat):Rep.bad (λs=>L.bytes M s) (L.aF.take i)=none:=by
 refine Rep.WB λj s hs=>?_;have hs':L.aF[j]?=some s:=by
  rw [aeY]at hs;split at hs
  ·exact hs
  ·cases hs
 have hl:j<C.length:=by rw [<-h.aF.1];exact (abm.1 hs').1
 have:=h.aF.2 j hl;rw [hs']at this;cases this;exact ⟨_,h.bytes (aay hl),(h.good _ (apT hl)).1⟩
theorem HG.split (h:HG K r E B n L M C):∃ c,Rep.split (λs=>L.bytes M s) L.aF L.aF.length=(c,0)/\c<=C.length/\(c≠0->∃ es,C[c-1]?=some es/\Rep.mJ es=true)/\∀ j es,c<=j->C[j]?=some es->Rep.mJ es=false:=by
 rw [h.aF.1];obtain ⟨c,h1,h2,h3,h4⟩:=Rep.TJ h.aF.1 h.told C.length (abl _);exact ⟨c,h1,h2,h3,λj es a b=>h4 j es a (abm.1 b).1 b⟩
theorem HG.run (h:HG K r E B n L M C):∃ c,Rep.run (λs=>L.bytes M s) L.aF=.inr c/\c<=C.length/\(c≠0->∃ es,C[c-1]?=some es/\Rep.mJ es=true)/\∀ j es,c<=j->C[j]?=some es->Rep.mJ es=false:=by
 obtain ⟨c,h1,h2⟩:=h.split;refine ⟨c,?_,h2⟩;unfold Rep.run;rw [h1,abj yF0];exact Rep.Ti (h.bad c)
theorem HG.RD (h:HG K r E B n L M C){r:Rep.Row} (hr:r∈Rep.gG 0 C):L.read M (Rep.iP r)=(r.2.e,0):=by
 obtain ⟨j,es,h1,h2,h3⟩:=Rep.KR C 0 hr;obtain ⟨u,v,h4,h5,h6⟩:=Rep.Ce es 8 h3;obtain ⟨s,⟨e,at_,size⟩⟩:=r;simp only at h2 h3 h4 h5 h6;rw [ad8]at h2;subst h2;subst h5;subst h6;have hx:gu e:=(h.good es (abA h1)).1 e (by rw [h4];simp);have hf:=h.file j es h1;have hm:mag.length=8:=rfl;have hes:encs es=encs u++((aj.encode e).1++encs v):=by rw [h4,yu];rfl
 have hrd:=abJ h.keeps.calm.quiet hf (a:=8+(encs u).length) (n:=(aj.encode e).1.length) (by rw [aaL,hes,aaL,aaL];omega);have hd:((mag++encs es).drop (8+(encs u).length)).take (aj.encode e).1.length=(aj.encode e).1:=by
  rw [hes,<-adQ,apU,aew (by rw [aaL];omega)];rw [show 8+(encs u).length-(mag++encs u).length=0 by rw [aaL];omega,apN,aeu,aeC (abl _),aeo]
 rw [hd]at hrd;have hre:=aj.RG hx.1 hx.2 [];rw [adV]at hre;unfold Log.read Rep.iP;simp only [h.at_k h1];rw [hrd];simp only [hre];rw [abj aN,abj aN,abj yF0]
end
structure HD (K r E B n:Nat) (L:Log) (M:ay) (D:List (Nat×List aj.aI)):Prop where
 keeps:Keeps K r L M
 l:L.l=D.map λd=>((d.1:Int),8+((encs d.2).length:Int))
 rise:D.Pairwise λa b=>a.1<b.1
 lim:∀ d∈D,d.1<n
 file:∀ d∈D,M.all (name d.1)=(mag++encs d.2,0)
 good:∀ d∈D,(∀ x∈d.2,gu x)/\(n<=500->d.2≠[])
 used:M.used<=n*400+B
 names:M.now.length<=n+E
 cover:∀ (k i:Nat),k<1048576->bU M.now (name (k:Int))=some i->∃ d∈D,d.1=k
def lM (C:List (List aj.aI)):List (Nat×List aj.aI):=C.mapIdx λi es=>(i,es)
def bZ (D:List (Nat×List aj.aI)):List Rep.Row:=D.flatMap λd=>(dI d.2 8).map λf=>((d.1:Int),f)
section
variable {K r E B n:Nat}{L:Log}{M:ay}{C:List (List aj.aI)}{D:List (Nat×List aj.aI)}{d:Nat×List aj.aI}
theorem vH (i:Nat):(lM C)[i]?=C[i]?.map λes=>(i,es):=by unfold lM;rw [List.getElem?_mapIdx]
theorem F6 (h:d∈lM C):C[d.1]?=some d.2:=by
 obtain ⟨i,hi⟩:=List.mem_iff_getElem?.1 h;rw [vH]at hi;cases hc:C[i]? with
 |none=>rw [hc]at hi;cases hi
 |some es=>rw [hc]at hi;cases hi;exact hc
theorem HG.hd (h:HG K r E B n L M C):HD K r E B n L M (lM C):=by
 refine ⟨h.keeps,?_,?_,λd hd=>?_,λd hd=>?_,λd hd=>?_,h.used,h.names,λk i hk hi=>?_⟩
 ·refine apu λi=>?_;rw [adW,vH];cases hc:C[i]? with
  |none=>exact ai4.2 (by rw [h.len];exact ai4.1 hc)
  |some es=>exact h.at_ i es hc
 ·rw [aoj];intro i j hi hj hij;have e1:=F6 (apT hi);have e:∀ (q:Nat) (hq:q<(lM C).length),(lM C)[q].1=q:=λq hq=>by
   have h1:=vH (C:=C) q;rw [aay hq]at h1;cases hc:C[q]? with
   |none=>rw [hc]at h1;cases h1
   |some es=>rw [hc]at h1;rw [ai2 h1]
  rw [e i hi,e j hj];exact hij
 ·have:=(abm.1 (F6 hd)).1;exact aqa this h.count
 ·exact h.file d.1 d.2 (F6 hd)
 ·exact ⟨(h.good d.2 (abA (F6 hd))).1,λ_=>(h.good d.2 (abA (F6 hd))).2⟩
 ·have hk2:=h.cover k i hk hi;refine ⟨(k,C[k]),?_,rfl⟩;refine List.mem_iff_getElem?.2 ⟨k,?_⟩;rw [vH,aay hk2]
  rfl
theorem HD.mono {K' E' B' n':Nat} (h:HD K r E B n L M D) (h1:K<=K') (h2:E<=E') (h3:B<=B') (h4:n<=n'):HD K' r E' B' n' L M D:=
 ⟨h.keeps.mono h1,h.l,h.rise,λd hd=>aqa (h.lim d hd) h4,h.file,λd hd=>⟨(h.good d hd).1,λq=>(h.good d hd).2 (adt h4 q)⟩,adt h.used (Nat.add_le_add (ae4 400 h4) h3),adt h.names oQ,h.cover⟩
theorem HD.aF (h:HD K r E B n L M D):L.aF=D.map λd=>(d.1:Int):=by
 unfold Log.aF;rw [h.l,aeW]
 rfl
theorem HD.EJ (h:HD K r E B n L M D) (hd:d∈D):∃ i,L.at (d.1:Int)=some i:=by
 cases hat:L.at (d.1:Int) with
 |some i=>exact ⟨i,rfl⟩
 |none=>
  exfalso;unfold Log.at at hat;rw [List.findIdx?_eq_none_iff]at hat;have:=hat ((d.1:Int),8+((encs d.2).length:Int)) (by rw [h.l];exact abL.2 ⟨d,hd,rfl⟩);simp at this
theorem HD.bytes (h:HD K r E B n L M D) (hd:d∈D):L.bytes M (d.1:Int)=(mag++encs d.2,0):=by
 obtain ⟨i,hi⟩:=h.EJ hd;unfold Log.bytes;rw [hi];exact h.file d hd
theorem HD.alike {L':Log}{M':ay} (h:HD K r E B n L M D){K':Nat} (hk:Keeps K' r L' M') (hl:L'.l=L.l) (ha:Alike M M'):HD K' r E B n L' M' D:=
 ⟨hk,by rw [hl];exact h.l,h.rise,h.lim,λd hd=>by rw [ha.all];exact h.file d hd,h.good,by rw [ha.used];exact h.used,by rw [ha.now];exact h.names,by rw [ha.now];exact h.cover⟩
theorem HD.Og (h:HD K r E B n L M D) (x:aj.aI) (hk:x.key.length=32) (hz:(L.append M x).2.2≠0):HD (K+4) r E B n (L.append M x).1.1 (L.append M x).1.2 D:=by
 obtain ⟨k1,k2⟩:=h.keeps.append x hk;obtain ⟨k3,_,k4,_⟩:=k2 hz;exact h.alike k1 k3 k4
def lK (D:List (Nat×List aj.aI)):Nat:=match D.getLast? with
 |none=>0
 |some d=>d.1+1
theorem HD.next (h:HD K r E B n L M D):L.next=lK D:=by
 unfold Log.next lK;rw [h.l,aqi];cases D.getLast? with
 |none=>rfl
 |some d=>simp
theorem QT (hr:D.Pairwise λa b=>a.1<b.1) (hd:d∈D):d.1<lK D:=by
 unfold lK;rcases apx D with rfl|⟨D0,e,rfl⟩
 ·cases hd
 ·rw [apy,aja]at *
  rw [aiq]at hr;simp only [List.getLast?_singleton,Option.some_or];rcases aeg.1 hd with hd|hd
  ·have:=hr.2.2 d hd e yF0;omega
  ·rw [adZ.1 hd];omega
theorem HD.nextn (h:HD K r E B n L M D):lK D<=n:=by
 unfold lK;cases hl:D.getLast? with
 |none=>exact aea _
 |some d=>exact h.lim d (ae5 hl)
def mQ (D:List (Nat×List aj.aI)) (fits:Bool) (x:aj.aI):List (Nat×List aj.aI):=
 if fits=true then D.dropLast++[((D.getLastD (0,[])).1,(D.getLastD (0,[])).2++[x])] else D++[(lK D,[x])]
theorem HD.EI (h:HD K r E B n L M D) (hn:n<1000) (hnm:M.now.length<500){x:aj.aI} (h0:(aj.encode x).2=0):(L.append M x).2.2=0\/(L.append M x).2.2=11:=by
 cases hf:L.fits (aj.encode x).1.length with
 |true=>
  rw [Log.xX h0 hf];obtain ⟨s,hl⟩:=h.keeps.log.last (uX hf);obtain ⟨i,hi⟩:=h.keeps.has _ (ae5 hl);unfold Log.grow;rw [hl];simp only;rcases wF h.keeps.calm.quiet (name s.1) (aj.encode x).1 with ⟨q1,_⟩|⟨j,q1,⟨q2,q3⟩|⟨q2,q3⟩⟩
  ·rw [hi]at q1;cases q1
  ·rw [q3];right;rw [abj yF0]
  ·rw [q3];left;rw [acg rfl]
 |false=>
  rw [Log.wC h0 hf];obtain ⟨s1,s2,s3,_,s5⟩:=h.keeps.shut;have hnx:(L.shut M).1.1.next=lK D:=by rw [<-h.next];unfold Log.next;rw [s3]
  unfold Log.begin;rw [acg s2];have hcnt:=h.nextn;have hno:bU (L.shut M).1.2.now (name (lK D:Int))=none:=by
   cases hi:bU (L.shut M).1.2.now (name (lK D:Int)) with
   |none=>rfl
   |some i=>
    rw [s5.now]at hi;obtain ⟨d,hd,e⟩:=h.cover (lK D) i oQ hi;have:=QT h.rise hd;omega
  have hl5:(L.shut M).1.2.now.length<500:=by rw [s5.now];exact hnm
  have hcm:=s1.calm;generalize lK D=c at *
  generalize (L.shut M).1.1=L1 at *
  generalize (L.shut M).1.2=M1 at *
  unfold Log.jC;rw [hnx,abj oQ];obtain ⟨c1,c2,_,_,_⟩:=Jg hcm (Pj (c:Int) oQ oQ) hno hl5;have hc1:=hcm.create (name (c:Int));have hself:bU (M1.create (name (c:Int))).1.now (name (c:Int))=some M1.files.length:=by rw [c2];exact CZ hcm.ok.ig.ny _ _
  rw [abj (λq=>q c1)];rcases wF hc1.quiet (name (c:Int)) (mag++(aj.encode x).1) with ⟨q1,_⟩|⟨j,q1,⟨q2,q3⟩|⟨q2,q3⟩⟩
  ·rw [hself]at q1;cases q1
  ·right;rw [q3,abj yF0,acg rfl];simp only;rw [acg (by rw [KL hc1.quiet hself])]
  ·left;rw [q3,acg rfl]
theorem HD.append (h:HD K r E B n L M D) (hn:n<1000) (x:aj.aI) (hk:x.key.length=32) (hd:x.data.length<=300) (h0:(aj.encode x).2=0) (hz:(L.append M x).2.2=0\/M.used+400<=M.room/\M.now.length<500) :
  (L.append M x).2.2=0/\(L.append M x).1.1.on=true/\(L.append M x).1.1.limit=L.limit/\HD (K+4) r E B (n+1) (L.append M x).1.1 (L.append M x).1.2 (mQ D (L.fits (aj.encode x).1.length) x):=by
 have hzz:=ag2 h0 hk hd;have hK:=(h.keeps.append x hk).1;have hu:=h.used;have hroom:=h.keeps.calm.room;cases hf:L.fits (aj.encode x).1.length with
 |true=>
  rw [Log.xX h0 hf]at hK hz ⊢;have hf':=hf;unfold Log.fits at hf';rw [aev,adY]at hf';obtain ⟨s,hl⟩:=h.keeps.log.last hf'.1;obtain ⟨D0,⟨c,es⟩,rfl⟩:∃ D0 e,D=D0++[e]:=by
   rcases apx D with e|⟨D0,e,rfl⟩
   ·rw [h.l,e]at hl;cases hl
   ·exact ⟨D0,e,apy⟩
  have hmem:(c,es)∈D0++[(c,es)]:=by simp
  have JB:=h.l;rw [adU,ad7,aeF]at JB;rw [JB,aja]at hl;simp only [List.getLast?_singleton,Option.some_or,aqh]at hl;subst hl;have hl:L.l.getLast?=some ((c:Int),8+((encs es).length:Int)):=by rw [JB,aja];simp
  have hcn:c<n:=h.lim _ hmem;obtain ⟨i,hi⟩:=h.keeps.has _ (ae5 hl);simp only at hi;have hall:=h.file _ hmem;simp only at hall;have hrm:M.used+(aj.encode x).1.length<=M.room:=by
   rcases hz with hz|⟨hz,_⟩
   ·rcases wF h.keeps.calm.quiet (name (c:Int)) (aj.encode x).1 with ⟨q1,_⟩|⟨j,q1,⟨q2,q3⟩|⟨q2,q3⟩⟩
    ·rw [hi]at q1;cases q1
    ·unfold Log.grow at hz;rw [hl]at hz;simp only [q3]at hz;rw [abj aN]at hz;exact absurd (show (11:Int)=0 from hz) aN
    ·omega
   ·omega
  obtain ⟨a1,a2,a3,a4,a5⟩:=I4 h.keeps.calm hi (aj.encode x).1 hrm;have hE:L.grow M (aj.encode x).1=(({ L with l:=L.l.dropLast++[((c:Int),8+((encs es).length:Int)+((aj.encode x).1.length:Int))] },(M.append (name (c:Int)) (aj.encode x).1).1),⟨(c:Int),8+((encs es).length:Int),(aj.encode x).1.length⟩,0):=by
   unfold Log.grow;rw [hl];simp only [a1,apa]
  rw [hE]at hK ⊢;simp only at hK ⊢;rw [hall]at a4;have hsz:(encs (es++[x])).length=(encs es).length+(aj.encode x).1.length:=by rw [yu,ES,aaL]
  have hput:mQ (D0++[(c,es)]) true x=D0++[(c,es++[x])]:=by unfold mQ;rw [acg rfl];simp
  rw [hput];have a4':(M.append (name (c:Int)) (aj.encode x).1).1.all (name (c:Int))=(mag++encs (es++[x]),0):=by rw [a4,yu,ES];simp
  have hr:=h.rise;rw [aiq]at hr;refine ⟨by first|trivial|rfl,hf'.1,by first|trivial|rfl,⟨hK,?_,?_,?_,?_,?_,?_,?_,?_⟩⟩
  ·show L.l.dropLast++_=_;rw [JB,adU,List.dropLast_concat,ad7,aeF,hsz];simp only [List.append_cancel_left_eq,List.cons.injEq,Prod.mk.injEq,true_and,and_true];omega
  ·rw [aiq];refine ⟨hr.1,List.pairwise_singleton _ _,λa ha b hb=>?_⟩;rw [adZ.1 hb];exact hr.2.2 a ha (c,es) yF0
  ·intro d hd;rcases aeg.1 hd with hd|hd
   ·exact Nat.lt_succ_of_lt (h.lim d (aeg.2 (.inl hd)))
   ·rw [adZ.1 hd];exact Nat.lt_succ_of_lt hcn
  ·intro d hd;rcases aeg.1 hd with hd|hd
   ·have h1:=hr.2.2 d hd (c,es) yF0;have h2:=h.lim d (aeg.2 (.inl hd));simp only at h1;rw [a5 _ (λe=>by have:=FX oQ oQ oQ oQ e;omega)];exact h.file d (aeg.2 (.inl hd))
   ·rw [adZ.1 hd];exact a4'
  ·intro d hd;rcases aeg.1 hd with hd|hd
   ·have hq:=h.good d (aeg.2 (.inl hd));exact ⟨hq.1,λq=>hq.2 oQ⟩
   ·rw [adZ.1 hd];refine ⟨λy hy=>?_,λ_=>by simp⟩;rcases aeg.1 hy with hy|hy
    ·exact (h.good _ hmem).1 y hy
    ·rw [adZ.1 hy];exact ⟨h0,hk⟩
  ·rw [a3];omega
  ·rw [a2];have:=h.names;omega
  ·intro k j hkk hj;rw [a2]at hj;obtain ⟨d,hd,e⟩:=h.cover k j hkk hj;rcases aeg.1 hd with hd|hd
   ·exact ⟨d,aeg.2 (.inl hd),e⟩
   ·rw [adZ.1 hd]at e;exact ⟨(c,es++[x]),by simp,e⟩
 |false=>
  rw [Log.wC h0 hf]at hK hz ⊢;obtain ⟨s1,s2,s3,s4,s5⟩:=h.keeps.shut;have hlim:=Log.am7 L M;have hB:L.begin M (aj.encode x).1=(L.shut M).1.1.jC (L.shut M).1.2 (aj.encode x).1:=by unfold Log.begin;rw [acg s2]
  rw [hB]at hK hz ⊢;have hnx:(L.shut M).1.1.next=lK D:=by rw [<-h.next];unfold Log.next;rw [s3]
  have aia:=s5.all;have jr:=s5.now;have FC:=s5.used;have apl:=s1.calm.room;have hcn:=h.nextn;have PX:∀ d∈D,d.1<lK D:=λd hd=>QT h.rise hd;have hput:mQ D false x=D++[(lK D,[x])]:=by unfold mQ;rw [abj aN]
  rw [hput];generalize lK D=c at *
  generalize (L.shut M).1.1=L1 at *
  generalize (L.shut M).1.2=M1 at *
  have hnn:bU M1.now (name (c:Int))=none:=by
   cases hq:bU M1.now (name (c:Int)) with
   |none=>rfl
   |some i=>
    exfalso;rw [jr]at hq;obtain ⟨d,hd,e⟩:=h.cover c i oQ hq;have:=PX d hd;omega
  have aiu:M1.now.length<500:=by
   rcases hz with hz|⟨_,hz⟩
   ·rcases EN s1.calm.quiet (name (c:Int)) with ⟨q1,_,_⟩|⟨_,_,q3,_⟩
    ·unfold Log.jC at hz;rw [hnx,abj oQ,acg q1]at hz;exact absurd hz q1
    ·exact q3
   ·rw [jr];exact hz
  obtain ⟨c1,c2,c3,c4,c5⟩:=Jg s1.calm (Pj (c:Int) oQ oQ) hnn aiu;have hc1:=s1.calm.create (name (c:Int));have hself:bU (M1.create (name (c:Int))).1.now (name (c:Int))=some M1.files.length:=by rw [c2];exact CZ s1.calm.ok.ig.ny _ _
  have hrm:(M1.create (name (c:Int))).1.used+(mag++(aj.encode x).1).length<=(M1.create (name (c:Int))).1.room:=by
   rcases hz with hz|⟨hz,_⟩
   ·rcases wF hc1.quiet (name (c:Int)) (mag++(aj.encode x).1) with ⟨q1,_⟩|⟨j,q1,⟨q2,q3⟩|⟨q2,q3⟩⟩
    ·rw [hself]at q1;cases q1
    ·unfold Log.jC at hz;rw [hnx,abj oQ,abj (λhh=>hh c1)]at hz;simp only [q3]at hz;rw [abj aN]at hz;simp only [apa]at hz;split at hz
     ·exact absurd hz aN
     ·rename_i g;exact absurd hz g
    ·omega
   ·rw [c3,FC,hc1.room,aaL];have:mag.length=8:=rfl;omega
  obtain ⟨a1,a2,a3,a4,a5⟩:=I4 hc1 hself (mag++(aj.encode x).1) hrm;have hE:L1.jC M1 (aj.encode x).1=(({ L1 with l:=L1.l++[((c:Int),8+((aj.encode x).1.length:Int))],on:=true,fresh:=L1.fresh+1 },((M1.create (name (c:Int))).1.append (name (c:Int)) (mag++(aj.encode x).1)).1),⟨(c:Int),8,(aj.encode x).1.length⟩,0):=by
   unfold Log.jC;rw [hnx,abj oQ,abj (λhh=>hh c1),acg a1]
  rw [hE]at hK ⊢;simp only at hK ⊢;rw [c4]at a4;have a4':((M1.create (name (c:Int))).1.append (name (c:Int)) (mag++(aj.encode x).1)).1.all (name (c:Int))=(mag++encs [x],0):=by rw [a4,ES];simp
  refine ⟨by first|trivial|rfl,by first|trivial|rfl,hlim,⟨hK,?_,?_,?_,?_,?_,?_,?_,?_⟩⟩
  ·simp only [s3,h.l,adU,ad7,aeF,ES]
  ·rw [aiq];refine ⟨h.rise,List.pairwise_singleton _ _,λa ha b hb=>?_⟩;rw [adZ.1 hb];exact PX a ha
  ·intro d hd;rcases aeg.1 hd with hd|hd
   ·exact Nat.lt_succ_of_lt (h.lim d hd)
   ·rw [adZ.1 hd];exact Nat.lt_succ_of_le hcn
  ·intro d hd;rcases aeg.1 hd with hd|hd
   ·have h1:=PX d hd;have hne:name (d.1:Int)≠name (c:Int):=λe=>by have:=FX oQ oQ oQ oQ e;omega
    rw [a5 _ hne,c5 _ hne,aia];exact h.file d hd
   ·rw [adZ.1 hd];exact a4'
  ·intro d hd;rcases aeg.1 hd with hd|hd
   ·exact ⟨(h.good d hd).1,λq=>(h.good d hd).2 oQ⟩
   ·rw [adZ.1 hd];exact ⟨λy hy=>by rw [adZ.1 hy];exact ⟨h0,hk⟩,λ_=>by simp⟩
  ·rw [a3,c3,FC,aaL];have:mag.length=8:=rfl;omega
  ·rw [a2,c2,QY];have:=CW M1.now (name (c:Int));rw [jr]at this;have:=h.names;rw [jr];omega
  ·intro k j hkk hj;by_cases e:k=c
   ·subst e;exact ⟨(k,[x]),by simp,rfl⟩
   ·rw [a2,c2,CY (λq=>e (by have:=FX oQ oQ oQ oQ q;omega)),jr]at hj;obtain ⟨d,hd,e2⟩:=h.cover k j hkk hj;exact ⟨d,aeg.2 (.inl hd),e2⟩
theorem HD.commit (h:HD K r E B n L M D) (hn:n<1000) (hz:(L.append M bC).2.2=0\/M.used+400<=M.room/\M.now.length<500) :
  (L.commit M).2.2=0/\(L.commit M).1.1.on=false/\(L.commit M).1.1.limit=L.limit/\HD (K+5) r E B (n+1) (L.commit M).1.1 (L.commit M).1.2 (mQ D (L.fits (aj.encode bC).1.length) bC):=by
 obtain ⟨a1,a2,a3,a4⟩:=h.append hn bC rfl aN ah hz;obtain ⟨i,hi⟩:=Wi h.keeps bC rfl a1;have iY:=h.keeps.log.commit M;have hcalm:=h.keeps.commit;rw [Log.Jf]at iY hcalm ⊢;rw [abj (λhh=>hh a1)]at iY hcalm ⊢;generalize L.append M bC=r at *
 obtain ⟨⟨L1,M1⟩,p1,e1⟩:=r;simp only at *
 have hs:=LH a4.keeps.calm.ok a4.keeps.calm.quiet (name p1.seg);have hsc:=a4.keeps.calm.sync (name p1.seg);have es:=a4.keeps.calm.quiet.Gu hi;have es2:(M1.sync (name p1.seg)).2=0:=by rw [es]
 rw [abj (λhh=>hh es2)]at iY hcalm ⊢;generalize (M1.sync (name p1.seg)).1=M2 at *
 have ed:=hsc.quiet.LD;have ed2:M2.dR.2=0:=by rw [ed]
 rw [abj (λhh=>hh ed2)]at iY hcalm ⊢;have had:Alike M2 M2.dR.1:=by rw [ed];exact ⟨rfl,rfl,rfl,λ_ _=>rfl⟩
 have ha:=hs.trans had;exact ⟨rfl,rfl,a3,a4.alike hcalm rfl ha⟩
end
section
variable {K r E B n:Nat}{L:Log}{M:ay}{C:List (List aj.aI)}
theorem Kt (C:List (List aj.aI)) (e:List aj.aI):lM (C++[e])=lM C++[(C.length,e)]:=by unfold lM;rw [List.mapIdx_concat]
theorem aaV (b:Bool) (x:aj.aI) (hb:b=true->C≠[]):lM (put C b x)=mQ (lM C) b x:=by
 rcases apx C with rfl|⟨C0,e,rfl⟩
 ·cases b with
  |true=>exact absurd rfl (hb rfl)
  |false=>rfl
 ·rw [apy];cases b with
  |true=>
   have e1:put (C0++[e]) true x=C0++[e++[x]]:=by unfold put;rw [acg rfl];simp
   rw [e1,Kt,Kt];unfold mQ;rw [acg rfl];simp
  |false=>
   have e1:put (C0++[e]) false x=C0++[e]++[[x]]:=by unfold put;rw [abj aN]
   rw [e1,Kt,Kt];unfold mQ lK;rw [abj aN];simp
theorem pN0 (b:Bool) (x:aj.aI) (h:∀ es∈C,es≠[]):∀ es∈put C b x,es≠[]:=by
 intro es he;unfold put at he;split at he
 ·rcases List.mem_append.1 he with he|he
  ·exact h es (List.dropLast_subset _ he)
  ·rw [List.mem_singleton.1 he];simp
 ·rcases List.mem_append.1 he with he|he
  ·exact h es he
  ·rw [List.mem_singleton.1 he];simp
theorem HD.hg (h:HD K r E B n L M (lM C)) (hne:∀ es∈C,es≠[]):HG K r E B n L M C:=by
 have hm:∀ (k:Nat) (es:List aj.aI),C[k]?=some es->(k,es)∈lM C:=λk es hk=>abA (i:=k) (by rw [vH,hk];rfl);have hl:(lM C).length=C.length:=List.length_mapIdx ..;refine ⟨h.keeps,by rw [h.l,aa4,hl],λk es hk=>?_,λk es hk=>h.file _ (hm k es hk),λes he=>?_,?_,h.used,h.names,λk i hk hi=>?_⟩
 ·rw [h.l,adW,vH,hk];rfl
 ·obtain ⟨k,hk⟩:=apI he;exact ⟨(h.good _ (hm k es hk)).1,hne es he⟩
 ·rcases Nat.eq_zero_or_pos C.length with q|q
  ·omega
  ·have:=h.lim _ (hm (C.length-1) _ (aay oQ));simp only at this;omega
 ·obtain ⟨d,hd,rfl⟩:=h.cover k i hk hi;exact (abm.1 (F6 hd)).1
theorem HG.tJ (h:HG K r E B n L M C){k:Nat}:L.fits k=true->C≠[]:=λhf=>by
 have h1:=h.keeps.log.on (uX hf);intro e;have:=h.len;rw [e,aeL]at this;exact h1 (agZ this)
theorem HG.append (h:HG K r E B n L M C) (hn:n<1000) (x:aj.aI) (hk:x.key.length=32) (hd:x.data.length<=300) (h0:(aj.encode x).2=0) (hz:(L.append M x).2.2=0\/M.used+400<=M.room/\M.now.length<500) :
  (L.append M x).2.2=0/\(L.append M x).1.1.on=true/\(L.append M x).1.1.limit=L.limit/\HG (K+4) r E B (n+1) (L.append M x).1.1 (L.append M x).1.2 (put C (L.fits (aj.encode x).1.length) x):=by
 obtain ⟨a1,a2,a3,a4⟩:=h.hd.append hn x hk hd h0 hz;rw [<-aaV _ _ h.tJ]at a4;exact ⟨a1,a2,a3,a4.hg (pN0 _ _ λes he=>(h.good es he).2)⟩
theorem HG.commit (h:HG K r E B n L M C) (hn:n<1000) (hz:(L.append M bC).2.2=0\/M.used+400<=M.room/\M.now.length<500) :
  (L.commit M).2.2=0/\(L.commit M).1.1.on=false/\(L.commit M).1.1.limit=L.limit/\HG (K+5) r E B (n+1) (L.commit M).1.1 (L.commit M).1.2 (put C (L.fits (aj.encode bC).1.length) bC):=by
 obtain ⟨a1,a2,a3,a4⟩:=h.hd.commit hn hz;rw [<-aaV _ _ h.tJ]at a4;exact ⟨a1,a2,a3,a4.hg (pN0 _ _ λes he=>(h.good es he).2)⟩
end
open Go.ay
open Go.aj (encs gu dI aI)
def TU (d:aI):aI:=if d.tag=0 then ⟨0,d.key,d.data⟩ else if d.tag=1 then ⟨1,d.key,[]⟩ else bC
def ai0 (d:aI):Prop:=d.tag=0\/d.tag=1
instance (d:aI):Decidable (ai0 d):=by unfold ai0;infer_instance
structure Pl (n:Nat) (ds:List aI) (L:Log) (M:ay) (C:List (List aI)):Prop where
 holds:Holds n L M C
 tail:Tail L.on C
 flat:C.flatten=ds.map TU
 small:∀ x∈C.flatten,x.data.length<=300
section
variable {n:Nat}{ds:List aI}{L:Log}{M:ay}{C C0:List (List aI)}{d:aI}
theorem ac2 (hk:d.key.length=32) (hd:d.data.length<=300):(aj.encode (TU d)).2=0:=by
 have hc:aj.check (TU d)=0:=by
  unfold TU;split
  ·unfold aj.check;simp only [apa];rw [abj oQ]
  split
  ·unfold aj.check;simp
  ·decide
 unfold aj.encode;rw [abj (by simp [hc])]
end
end Go.Seg
namespace Go.Rep
open Go.aj (Bs dD aI dI encs gu)
open Go.Seg (aV mag)
open Go.Tab
def qN (l:List Row) (s:Int):Int:=(l.map λr=>if r.1=s then (r.2.size:Int) else 0).sum
theorem Dz (a b:List Row) (s:Int):qN (a++b) s=qN a s+qN b s:=by unfold qN;rw [adU,List.sum_append]
theorem Qw {l:List Row} (s:Int):∀ i,i<=l.length->0<=live l s i/\live l s i<=qN (l.take i) s
 |0,_=>⟨aoZ 0,by simp [live,qN]⟩
 |i+1,hi=>by
  have ih:=Qw (l:=l) s i oQ;obtain ⟨r,hr⟩:∃ r,l[i]?=some r:=⟨_,aay oQ⟩;rw [aeK,hr,afw,Dz];have e:qN [r] s=if r.1=s then (r.2.size:Int) else 0:=by unfold qN;simp
  rw [e];unfold live;rw [hr];simp only;by_cases h:r.1=s
  ·rw [acg h];split <;> omega
  ·rw [abj h,abj (λhh=>h hh.2)];omega
theorem O7:∀ (es:List aI) (a:Nat),((dI es a).map λf=>(f.size:Int)).sum=(encs es).length
 |[],_=>rfl
 |x::es,a=>by
  have e:encs (x::es)=(aj.encode x).1++encs es:=rfl;unfold dI;rw [ad7,ap6,O7 es,e,aaL];simp
theorem Gq (l:List dD) (k s:Int):qN (l.map λf=>(k,f)) s=if k=s then (l.map λf=>(f.size:Int)).sum else 0:=by
 unfold qN;rw [aeW];by_cases h:k=s
 ·rw [acg h]
  congr 1
  refine akU λf _=>?_;simp [h]
 ·rw [abj h]
  induction l with
  |nil=>rfl
  |cons f l ih=>rw [ad7,ap6,ih];simp [h]
theorem acL:∀ (C:List (List aI)) (k:Nat) (s:Int),s<k->qN (gG k C) s=0
 |[],_,_,_=>rfl
 |es::C,k,s,h=>by
  unfold gG;rw [Dz,acL C (k+1) s oQ,Gq,abj oQ];rfl
theorem acK:∀ (C:List (List aI)) (k j:Nat) (es:List aI),C[j]?=some es->qN (gG k C) ((k+j:Nat):Int)=(encs es).length
 |[],_,_,_,h=>by simp at h
 |fs::C,k,0,es,h=>by
  obtain rfl:fs=es:=by simpa using h
  unfold gG;rw [Dz,acL C (k+1) _ oQ,Gq,acg yF0,O7];simp
 |fs::C,k,j+1,es,h=>by
  unfold gG;rw [Dz,Gq,abj oQ];have:=acK C (k+1) j es yP0;rw [show k+(j+1)=k+1+j by omega,this];simp
end Go.Rep
namespace Go.Seg
open Go.ay
section
variable {i j K:Nat}{M D:ay}
end
section
variable {i n c K:Nat}{L:Log}{M D:ay}
theorem DC (h:L.Ok):L.aF.Pairwise (· < ·):=h.rise
theorem amU (h:L.Ok):∀ s∈L.aF,0<=s:=λs hs=>by
 unfold Log.aF at hs;obtain ⟨x,hx,rfl⟩:=abL.1 hs;exact (h.nums x hx).1
theorem rows_ok (h:L.Ok) (M:ay) (n:Nat):Rep.Rows (Rep.rowsOf (λs=>L.bytes M s) (L.aF.take n)):=
 Rep.alQ ((DC h).sublist (List.take_sublist _ _)) λs hs=>amU h s (aeP hs)
end
end Go.Seg
namespace Go.Rep
open Go.aj (Bs dD aI dI encs gu)
open Go.Seg (aV mag)
open Go.Tab
theorem FZ:∀ {l:List Row}{k:Bs}{r:Row},newest l k=some r->r∈l/\dM r≠2/\fU r=k
 |[],_,_,h=>by cases h
 |x::l,k,r,h=>by
  unfold newest at h;split at h
  ·rename_i y hy;cases h;obtain ⟨h1,h2⟩:=FZ hy;exact ⟨.tail _ h1,h2⟩
  ·split at h
   ·rename_i hh;cases h;exact ⟨.head _,hh⟩
   ·cases h
end Go.Rep
namespace Go.Seg
open Go.ay
open Go.aj (Bs dD encs gu dI aI)
open Go.Rep
section
variable {n:Nat}{ds:List aI}{L:Log}{M:ay}{C:List (List aI)}{c:Nat}
end
end Go.Seg
namespace Go.Rep
open Go.aj (Bs dD aI dI encs gu)
open Go.Seg (aV mag)
open Go.Tab
def dO (l:List Row) (k:Bs):Option aV:=(newest l k).bind λr=>if dM r=0 then some (iP r) else none
def jw (es:List aI) (k:Bs):Option Bs:=(pF es k).bind λe=>if e.tag=0 then some e.data else none
section
variable {l:List Row}{r:Row}{k:Bs}{es:List aI}{x:aI}{C:List (List aI)}
theorem Kr (h:dM r=0):dO (l++[r])=Tab.put (dO l) (fU r) (iP r):=by
 funext k
 unfold dO Tab.put;rw [CX];by_cases hk:k=fU r
 ·rw [acg ⟨by rw [h];decide,hk.symm⟩,acg hk];show (if dM r=0 then some (iP r) else none)=_;rw [acg h]
 ·rw [abj (λq=>hk q.2.symm),abj hk]
theorem akg (h:dM r=1):dO (l++[r])=Tab.del (dO l) (fU r):=by
 funext k
 unfold dO Tab.del;rw [CX];by_cases hk:k=fU r
 ·rw [acg ⟨by rw [h];decide,hk.symm⟩,acg hk];show (if dM r=0 then some (iP r) else none)=_;rw [abj (by rw [h];decide)]
 ·rw [abj (λq=>hk q.2.symm),abj hk]
theorem QX (h:dM r=2):dO (l++[r])=dO l:=by
 funext k
 unfold dO;rw [CX,abj (λq=>q.1 h)]
theorem aaP (l:List Row) (k:Bs):(dO l k).isSome=(jw (l.map (·.2.e)) k).isSome/\∀ r,newest l k=some r->dM r=0->jw (l.map (·.2.e)) k=some r.2.e.data:=by
 have e:=QO l k;unfold dO jw;rw [<-e];cases hn:newest l k with
 |none=>exact ⟨rfl,λr hr=>by cases hr⟩
 |some r=>
  refine ⟨?_,λr' hr h0=>?_⟩
  ·show (if dM r=0 then some (iP r) else none).isSome=(if r.2.e.tag=0 then some r.2.e.data else none).isSome;unfold dM;split <;> rfl
  ·cases hr;show (if r.2.e.tag=0 then some r.2.e.data else none)=_;rw [acg (show r.2.e.tag=0 from h0)]
theorem akf {p:aV} (h:dO l k=some p):∃ r∈l,iP r=p/\dM r=0/\fU r=k/\jw (l.map (·.2.e)) k=some r.2.e.data:=by
 have h':=h;unfold dO at h;obtain ⟨r,h1,h2⟩:=Option.bind_eq_some_iff.1 h;obtain ⟨h3,h4,h5⟩:=FZ h1;split at h2
 ·rename_i h6;cases h2;exact ⟨r,h3,rfl,h6,h5,(aaP l k).2 r h1 h6⟩
 ·cases h2
theorem akq (h:x.tag=0):jw (es++[x])=Tab.put (jw es) x.key x.data:=by
 funext k
 unfold jw Tab.put;rw [Qo];by_cases hk:k=x.key
 ·rw [acg ⟨by rw [h];decide,hk.symm⟩,acg hk];show (if x.tag=0 then some x.data else none)=_;rw [acg h]
 ·rw [abj (λq=>hk q.2.symm),abj hk]
theorem akp (h:x.tag=1):jw (es++[x])=Tab.del (jw es) x.key:=by
 funext k
 unfold jw Tab.del;rw [Qo];by_cases hk:k=x.key
 ·rw [acg ⟨by rw [h];decide,hk.symm⟩,acg hk];show (if x.tag=0 then some x.data else none)=_;rw [abj (by rw [h];decide)]
 ·rw [abj (λq=>hk q.2.symm),abj hk]
theorem aa3 (h:x.tag=2):jw (es++[x])=jw es:=by
 funext k
 unfold jw;rw [Qo,abj (λq=>q.1 h)]
theorem KH {kv:List (Bs×dY)} (h:Tab.Lists (ledger l) kv):Tab.mapOf (puts kv)=dO l:=by
 have hl:=Tab.J4 (Dp h.rise)
 funext k
 have key:∀ p,Tab.mapOf (puts kv) k=some p↔dO l k=some p:=λp=>by
  rw [<-hl.mem];unfold puts dO;rw [abL,Option.bind_eq_some_iff];constructor
  ·rintro ⟨q,hq,e⟩;obtain ⟨h1,h2⟩:=aem.1 hq;have h3:=(h.mem q.1 q.2).1 h1;unfold ledger at h3;obtain ⟨r,h4,h5⟩:=aip.1 h3;have e1:q.1=k:=aey Prod.fst e;have e2:q.2.place=p:=aey Prod.snd e;refine ⟨r,by rw [<-e1];exact h4,?_⟩;have ht:q.2.tag=0:=by simpa using h2
   rw [<-h5]at ht e2;simp only at ht e2;rw [acg ht,e2]
  ·rintro ⟨r,h1,h2⟩;split at h2
   ·rename_i ht;cases h2;refine ⟨(k,⟨dM r,iP r,first l k⟩),aem.2 ⟨(h.mem _ _).2 (by unfold ledger;rw [h1];rfl),by simpa using ht⟩,rfl⟩
   ·cases h2
 cases hn:dO l k with
 |some p=>exact (key p).2 hn
 |none=>
  cases hm:Tab.mapOf (puts kv) k with
  |none=>rfl
  |some p=>rw [(key p).1 hm]at hn;cases hn
theorem O6:∀ (es:List aI) (a:Nat) (x:aI),dI (es++[x]) a=dI es a++[⟨x,a+(encs es).length,(aj.encode x).1.length⟩]
 |[],a,x=>by show [_]=[_];rw [show (encs []).length=0 from rfl,ai6]
 |y::es,a,x=>by
  rw [aeI,dI,dI,O6 es _ x,aeI];rw [show encs (y::es)=(aj.encode y).1++encs es from rfl,aaL,apB]
theorem KQ:∀ (C D:List (List aI)) (k:Nat),gG k (C++D)=gG k C++gG (k+C.length) D
 |[],D,k=>rfl
 |es::C,D,k=>by
  rw [aeI];show _++gG (k+1) (C++D)=(_++gG (k+1) C)++_;rw [KQ C D (k+1),adQ,aep,show k+1+C.length=k+(C.length+1) by omega]
def putRow (C:List (List aI)) (b:Bool) (x:aI):Row:=
 if b then (((C.length-1:Nat):Int),⟨x,8+(encs (C.getLastD [])).length,(aj.encode x).1.length⟩) else ((C.length:Int),⟨x,8,(aj.encode x).1.length⟩)
theorem ab4 (C:List (List aI)) (b:Bool) (x:aI) (hb:b=true->C≠[]):gG 0 (Seg.put C b x)=gG 0 C++[putRow C b x]:=by
 cases b with
 |true=>
  have hne:=hb rfl;unfold Seg.put putRow;simp only [apa];rw [KQ]
  conv=>rhs;rw [Seg.JO hne,KQ]
  rw [adQ]
  congr 1
  show _++[]=(_++[])++_;rw [adV,adV,O6,adU,List.length_dropLast,ad8];have hg:(C.dropLast++[C.getLastD []]).getLastD []=C.getLastD []:=by rw [List.getLastD_eq_getLast?,List.getLast?_concat];rfl
  have hlen:(C.dropLast++[C.getLastD []]).length=C.length:=by rw [<-Seg.JO hne]
  rw [hg,hlen]
  rfl
 |false=>
  unfold Seg.put putRow;simp only [afX,apA];rw [KQ]
  congr 1
  show _++[]=_;rw [adV,ad8]
  rfl
theorem abq (C:List (List aI)) (b:Bool) (x:aI):(putRow C b x).2.e=x:=by
 unfold putRow;split <;> rfl
end
end Go.Rep
namespace Go.Seg
open Go.ay
open Go.aj (Bs aI encs gu)
open Go.Rep
section
variable {K r E B n:Nat}{L:Log}{M:ay}{C:List (List aI)}{x:aI}
theorem HG.Oe (h:HG K r E B n L M C) (h0:(aj.encode x).2=0) (hz:(L.append M x).2.2=0):(L.append M x).2.1=iP (putRow C (L.fits (aj.encode x).1.length) x):=by
 cases hf:L.fits (aj.encode x).1.length with
 |true=>
  rw [Log.xX h0 hf]at hz ⊢;obtain ⟨s,hl⟩:=h.keeps.log.last (uX hf);have hl':=hl;rw [aeH]at hl';have hlt:=(abm.1 hl').1;have hlen:=h.len;have hne:C≠[]:=by intro e;rw [e,aeL]at hlen;omega
  have hcl:C[L.l.length-1]?=some (C.getLastD []):=by
   conv=>lhs;rw [JO hne]
   rw [aeh (by rw [List.length_dropLast];omega),List.length_dropLast,show L.l.length-1-(C.length-1)=0 by omega];rfl
  have hat:=h.at_ _ _ hcl;rw [hl']at hat;cases hat;unfold Log.grow at hz ⊢;rw [hl]at hz ⊢;simp only at hz ⊢;split at hz
  ·rename_i g;rw [acg g];unfold putRow iP;simp only [apa];rw [hlen]
   rfl
  ·rename_i g;exact absurd hz g
 |false=>
  rw [Log.wC h0 hf]at hz ⊢;obtain ⟨_,s2,s3,_,_⟩:=h.keeps.shut;have hnx:(L.shut M).1.1.next=C.length:=by
   have:=h.next;unfold Log.next at this ⊢;rw [s3];exact this
  unfold Log.begin at hz ⊢;rw [acg s2]at hz ⊢;generalize (L.shut M).1.1=L1 at *
  generalize (L.shut M).1.2=M1 at *
  unfold Log.jC at hz ⊢;by_cases g2:1048576<=L1.next
  ·rw [acg g2]at hz;exact absurd (show (16:Int)=0 from hz) aN
  rw [abj g2]at hz ⊢;by_cases g3:(M1.create (name L1.next)).2=0;rotate_left
  ·rw [acg g3]at hz;exact absurd hz g3
  rw [abj (λq=>q g3)]at hz ⊢;by_cases g4:((M1.create (name L1.next)).1.append (name L1.next) (mag++(aj.encode x).1)).2=0
  ·rw [acg g4,hnx]
   rfl
  rw [abj g4]at hz;split at hz
  ·simp only at hz;split at hz
   ·exact absurd hz aN
   ·rename_i g5;exact absurd hz g5
  ·exact absurd hz g4
end
end Go.Seg
namespace Go.Rep
open Go.aj (Bs dD)
open Go.Seg (aV)
open Go.Tab
def hit (k:Bs) (r:Row):Bool:=decide (dM r<2) && decide (fU r=k)
section
variable {l:List Row}{k:Bs}{i:Nat}{r:Row}
end
section
variable {V:Type}
variable {l:List (Bs×V)}{x y:Bs×V}{i:Nat}
end
section
variable {l:List Row}{us:List Use}{i k:Nat}{r:Row}{u:Use}
end
end Go.Rep
namespace Go.Proofs.Y
open Go Go.Sl Go.ay Go.ChangeShapes Go.WideShapes Go.RowKit
section
variable {enc:TypeId×Value->H}{W:World}
theorem akA {t:TypeId}{fuel:Nat}{cs:List Value}{x:DataW H×List MemPlace}{k:Nat} (ht:prog.underlying t=some (.array k 5)) (hk:prog.cellsOf t=k) (h:DataW.trod enc prog W base spare held fuel t cs=some x) :
  ∃ l:Bs,aA l=cs/\l.length=k:=by
 obtain ⟨xs,m,_,_,hl,hxl,hf⟩:=DataW.trod_array ht h;have e1:prog.cellsOf 5=1:=by kernel_rfl
 rw [hk]at hl;have hz:∀ i,i<k->∃ z:Int,cs[i]?=some (.int .u8 z)/\(Lit.int .u8 z).wf=true:=by
  intro i hi;have h0:=hf i hi;rw [aay oQ,e1,aes]at h0;obtain ⟨z,q1,_,q3⟩:=apY underlying5 h0;refine ⟨z,?_,q3⟩;have:((cs.drop i).take 1)[0]?=some (.int .u8 z):=by rw [q1];rfl
  rw [aeY,acg aN,ao5]at this;exact this
 obtain ⟨zs,z1,z2⟩:=aah hz;have hcs:cs=zs.map (.int .u8):=by
  apply apu;intro i;rw [adW];by_cases hi:i<k
  ·have:=(z2 i _ (aay oQ)).1;rw [this,aay (show i<zs.length by omega)];rfl
  ·rw [aiH oQ,aiH oQ];rfl
 refine ⟨Gx zs,?_,by unfold Gx;rw [aa4];exact z1⟩;rw [WQ,hcs];intro z hz;obtain ⟨i,hi,rfl⟩:=aoY hz;exact (z2 i _ (aay hi)).2
structure adR (W:World) (p:aj.aI×Value):Prop where
 key:p.1.key.length=32
 tag:qK p.1.tag
 rd:bF 1 p.2 (aA p.1.data) W
 cap:lY p.2
end
structure PC where
 n:Int
 es:List (aj.aI×Value)
 ev:Value
 rest:Bs
 rv:Value
 bad:Bool
 at_:Int
 plain:Bool
structure PC.At (W:World) (d:PC):Prop where
 n:qK d.n
 rd:bF 34 d.ev (ahd d.es) W
 cap:lY d.ev
 ents:∀ p∈d.es,adR W p
 rr:bF 1 d.rv (aA d.rest) W
 rc:lY d.rv
 at_:qK d.at_
section
variable {enc:TypeId×Value->H}{W:World}
end
end Go.Proofs.Y
namespace Go.Seg
open Go.ay
open Go.aj (encs gu dI aI)
end Go.Seg
namespace Go.Proofs.Y
open Go.ay
section
variable {R:List aG}{L:Seg.Log}
end
end Go.Proofs.Y
namespace Go.Seg
open Go.ay
open Go.aj (Bs dD encs gu dI aI)
open Go.Rep
section
variable {n n2:Nat}{ds ps:List aI}{L L2:Log}{M M2:ay}{C C0 C2:List (List aI)}{c c2:Nat}{d:aI}
end
theorem ZL:∀ {l l':List Int},l.Pairwise (· < ·)->l'.Pairwise (· < ·)->(∀ p,p∈l↔p∈l')->l=l'
 |[],[],_,_,_=>rfl
 |[],b::l',_,_,h=>by have:=(h b).2 (.head _);cases this
 |a::l,[],_,_,h=>by have:=(h a).1 (.head _);cases this
 |a::l,b::l',h1,h2,h=>by
  obtain ⟨a1,a2⟩:=aeZ.1 h1;obtain ⟨b1,b2⟩:=aeZ.1 h2;have hab:a=b:=by
   rcases ad5.1 ((h a).1 (.head _)) with e|h3
   ·exact e
   ·rcases ad5.1 ((h b).2 (.head _)) with e|h4
    ·exact e.symm
    ·have:=b1 a h3;have:=a1 b h4;omega
  subst hab
  congr 1
  refine ZL a2 b2 λp=>?_;have:=h p;rw [ad5,ad5]at this;constructor
  ·intro hp;rcases this.1 (.inr hp) with e|h3
   ·subst e;have:=a1 p hp;omega
   ·exact h3
  ·intro hp;rcases this.2 (.inr hp) with e|h3
   ·subst e;have:=b1 p hp;omega
   ·exact h3
section
variable {n:Nat}{ds:List aI}{L:Log}{M:ay}{C C0:List (List aI)}{c:Nat}{d x:aI}{xe:aI}
end
end Go.Seg
