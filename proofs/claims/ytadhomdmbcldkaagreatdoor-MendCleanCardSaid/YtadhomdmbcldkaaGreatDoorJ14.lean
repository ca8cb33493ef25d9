import Derived.Test.YtadhomdmbcldkaaGreatDoorJ13
import Derived.Laws.StructEq
import Derived.Test.YtadhomdmbcldkaaGreatDoorRows
import Derived.Test.YtadhomdmbcldkaaGreatDoorCards
import Derived.Test.YtadhomdmbcldkaaGreatDoorTie
import Derived.ProofKit
import Derived.LaidMore
import Derived.OpenShut
import Derived.ShutString
import Derived.SevenTiedAt
set_option linter.unusedSimpArgs false
open Go.Proofs.Tryz
set_option maxRecDepth 100000
set_option linter.unusedVariables false
set_option maxHeartbeats 128000000
open Go Go.Sl Go.MapKept Go.RowKit
open Go.Proofs.YtadhomdmbcldkaaGreatDoor Go.Proofs.Y
variable {w0 w:World}{F:List aF}{m K E B p r0 n lc r B1:Nat}{M:ak.ak}{L:Seg.Log}{D:List (Nat×List aj.aJ)}{us:List Rep.Use}{R:List (Nat×aj.Bs)}{la:Option Addr}{limit seg N:Int}{mi:aj.Bs->Option Seg.aZ}{ys:List Mp}{zs:List Sg}{d:Bool}{lv:Value}
theorem yO0{p:Prop} (h:p:=by have:=nG.o;omega):p:=h
theorem yW0{p:Prop} (h:p:=by have:=HT.o.1.fit.ok.budget;have:=Hi.o;omega):p:=h
theorem yZ0{p:Prop} (h:p:=by have:=HT.o.1.fit.files;have:=Hi.o;omega):p:=h
theorem zL0{p:Prop} (h:p:=by have:=HT1.o.1.fit.ok.ET;omega):p:=h
namespace Go.Proofs.Y
open Go.ak
theorem aic {D:List (Nat×List aj.aJ)}{N:Int}{us:List Rep.Use}{pl:List (aj.Bs×Seg.aZ)}{x:List (aj.Bs×Rep.dU)} (h:Seg.sN D N us pl) (hx:Tab.Lists (Rep.ledger (Seg.iH D)) x):Tab.mapOf pl=Tab.mapOf (Rep.puts x)/\us=(Seg.lQ D).map (Rep.upd x):=by
 obtain ⟨kv,k1,_,k3,k4⟩:=h.kv;obtain rfl:kv=x:=Tab.Lists.unique k1 hx;exact ⟨by rw [k4],k3⟩
theorem ae7 {K r E B n:Nat}{L:Seg.Log}{M:ak}{D:List (Nat×List aj.aJ)}{N:Int}{us:List Rep.Use}{pl:List (aj.Bs×Seg.aZ)} (h:Seg.nM K r E B n L M D) (s:Seg.sN D N us pl):us.length<=n:=by
 obtain ⟨kv,k1,_,k3,k4⟩:=s.kv;rw [k3,abl];unfold Seg.lQ;rw [abl];exact h.hd.count
theorem ajJ (a:Seg.aZ) (w:World):(binOp .neq 115 (.agg (bT a).toArray) (.agg (bT a).toArray)).run prog w=.ok (.bool false) w:=by
 obtain ⟨a1,a2,c3⟩:=a;have u3:=underlying3;have a3:=Tryz.isAgg3;have z3:=Tryz.sizeOf3;have hS:prog.underlying 115=some (.struct (prog.fieldsOf 115)):=by kernel_rfl
 have hp:prog.stoodInHeld 115=false:=by kernel_rfl
 rw [run_neq_struct];have e:(Op.equalIn 10000 115 (.agg #[.int .i64 a1,.int .i64 a2,.int .i64 c3]) (.agg #[.int .i64 a1,.int .i64 a2,.int .i64 c3])).run prog w=.ok true w:=by
  rw [show (10000:Nat)=9999+1 from rfl,run_equalIn_agg w 9999 115 _ _ hS hp];simp only [Program.fieldsOf,underlying115];go_simp
  try simp
 rw [show (bT ⟨a1,a2,c3⟩).toArray=#[.int .i64 a1,.int .i64 a2,.int .i64 c3] from rfl,e]
 rfl
theorem alO (hR:Seg.nM K r0 E B n L M D) (hn:n<=1000) (he:Seg.vk D) (hH:Ro w0 F Half) (h:Sat w0 w (aV p m L::aI m M::F)) :
  Calls prog 102 #[ptr p] w (aN λv w'=>OG w0 p m n L M D F v w'):=by
 obtain ⟨_,q2,q3⟩:=hR.hd.last he;refine (acd hR.hd.keeps.log hR.hd.keeps.calm.ok hH (adT hR.iK oQ) hR.TA h).mono ?_;rintro e w' ⟨v,rfl,ho⟩;unfold AZ at ho;rw [show Rep.run (dD L M) L.aH=.inr L.aH.length from q2]at ho;obtain ⟨ps,pi,uv,tv,av,kv,rfl,⟨k1,k2,k3⟩,⟨⟨a,c,rfl⟩,_⟩,hS⟩:=ho;rw [aeH]at k1 k3 hS;rw [show Rep.rowsOf (dD L M) L.aH=Seg.iH D from hR.hd.rows]at k1;rw [q3,show Rep.nT (dD L M) L.aH=Seg.lQ D from hR.hd.uses,aph]at hS;have hl:=adT k3 hR.iK;exact ⟨_,rfl,ps,pi,uv,_,(kv,kv.length),rfl,⟨a,c,rfl⟩,⟨k1,k2,hl,hl⟩,hS.sb⟩
section
variable {pa pb ia ib B2:Nat}{N1 N2:Int}{ua ub ta tb:Value}
abbrev sF (pa pb ia ib B1 B2:Nat) (N1 N2:Int) (ua ub ta tb:Value) (mi:aj.Bs->Option Seg.aZ) (us:List Rep.Use) (F:List aF):List aF:=
 bZ pa N1 ia ua ta::bf ia mi B1::aC 205 3 ua (us.flatMap bJ)::bZ pb N2 ib ub tb::bf ib mi B2::aC 205 3 ub (us.flatMap bJ)::F
theorem differ_c (h1:B1<=1000000) (h2:B2<=1000000) (rU:us.length<=65536) (h:Sat w0 w (sF pa pb ia ib B1 B2 N1 N2 ua ub ta tb mi us F)) :
  Calls prog 103 #[ptr pa,ptr pb] w (aN λv w'=>v=.slice none 0 0/\Sat w0 w' (sF pa pb ia ib B1 B2 N1 N2 ua ub ta tb mi us F)):=by
 have H1:=uQ h1;have H2:=uQ h2;have rF:=uQ rU;clear h1 h2 rU;go_enter func103,ntmps103;go_wp2_with fail;refine (ajM h).mono ?_;rintro e w1 ⟨v,rfl,kp,rfl,h1⟩;clear h;have hA:Sat w0 (w1.alloc (.cells #[ptr pa,ptr pb] 103)) (pt w1.heap.size (.cells #[ptr pa,ptr pb] 103 (0,0))::jH kp (λ_=>none) 0::sF pa pb ia ib B1 B2 N1 N2 ua ub ta tb mi us F):=h1.alloc _;go_wp2_with fail;clear h1;generalize w1.alloc (.cells #[ptr pa,ptr pb] 103)=w2 at *
 generalize w1.heap.size=q at *
 go_loopg [24] 2 (λg jq wr=>∃ (j Bk:Nat) (mk:aj.Bs->Option Int),g=2-j/\j<=2/\jq=.int .i64 j/\Bk<=j*1000000/\Sat w0 wr (pt q (.cells #[ptr pa,ptr pb] 103 (0,0))::jH kp mk Bk::sF pa pb ia ib B1 B2 N1 N2 ua ub ta tb mi us F))
 case atStart=>exact ⟨0,0,_,rfl,by decide,rfl,ad4 _,hA⟩
 case round=>
  obtain ⟨j,Bk,mk,rfl,hj,rfl,JY,hS⟩:=hrel;clear hA;by_cases hj2:j<2
  focus
   have c1:(j:Int)<2:=oQ;have Kq:IntKind.i64.wrap ((j:Int)+1)=(j:Int)+1:=acO _ oQ;have Hj:=uQ (And.intro hj2 JY);obtain ⟨ps,ii,Bi,G,aeu,FU,Jd,f0,f1⟩:∃ (ps ii Bi:Nat) (G:List aF),Hid (∀ (w':World) (A B:aF),Sat w0 w' (A::B::sF pa pb ia ib B1 B2 N1 N2 ua ub ta tb mi us F)->Sat w0 w' (bf ii mi Bi::A::B::G))/\Hid (∀ (w':World) (A B:aF),Sat w0 w' (bf ii mi Bi::A::B::G)->Sat w0 w' (A::B::sF pa pb ia ib B1 B2 N1 N2 ua ub ta tb mi us F))/\Hid (Bi<=1000000)/\wr.cell? ⟨q,j,none⟩=some (.pointer (some ⟨ps,0,none⟩))/\wr.cell? ⟨ps,1,none⟩=some (.pointer (some ⟨ii,0,none⟩)):=by
    have h01:j=0\/j=1:=oQ;rcases h01 with rfl|rfl
    ·exact ⟨pa,ia,B1,bZ pa N1 ia ua ta::aC 205 3 ua (us.flatMap bJ)::bZ pb N2 ib ub tb::bf ib mi B2::aC 205 3 ub (us.flatMap bJ)::F,uQ (λw' A B h=>h.sb),uQ (λw' A B h=>h.sb),uQ H1.o,hS.cellP aK 0 rfl,hS.cellP fE 1 rfl⟩
    ·exact ⟨pb,ib,B2,bZ pa N1 ia ua ta::bf ia mi B1::aC 205 3 ua (us.flatMap bJ)::bZ pb N2 ib ub tb::aC 205 3 ub (us.flatMap bJ)::F,uQ (λw' A B h=>h.sb),uQ (λw' A B h=>h.sb),uQ H2.o,hS.cellP aK 1 rfl,hS.cellP (aU (aU iw)) 1 rfl⟩
   have hS1:=aeu.o _ _ _ hS;clear hj hj2 JY hS;go_wp2_with fail;refine (ZI (adT Jd.o aG) hS1).mono ?_;rintro e w3 ⟨v,rfl,kv,⟨Qr,BR,Gz⟩,h3⟩;clear hS1 f0 f1;obtain ⟨ka,kc,rfl⟩:=iP (f:=λq:aj.Bs×Seg.aZ=>aB q.1) (k:=32) (l:=kv) (λq hq=>by rw [aP];exact BR q hq) (Sat.rd h3) aG;have sH:=uQ (And.intro BR (show kv.length<=1000000 from adT Gz Jd.o));clear Qr BR Gz;have h4:Sat w0 w3 (aC 34 32 (.slice ka kv.length kc) (kv.flatMap λq=>aB q.1)::jH kp mk Bk::bf ii mi Bi::pt q (.cells #[ptr pa,ptr pb] 103 (0,0))::G):=h3.sb;clear h3;go_wp2_with fail
   go_loopg [34] kv.length (λg iq wr=>∃ (i Bl:Nat) (ml:aj.Bs->Option Int),g=kv.length-i/\i<=kv.length/\iq=.int .i64 i/\Bl<=Bk+i/\Sat w0 wr (aC 34 32 (.slice ka kv.length kc) (kv.flatMap λq=>aB q.1)::jH kp ml Bl::bf ii mi Bi::pt q (.cells #[ptr pa,ptr pb] 103 (0,0))::G))
   case atStart=>exact ⟨0,Bk,mk,rfl,ad4 _,rfl,ab1 _,h4⟩
   case round=>
    obtain ⟨i,Bl,ml,rfl,hi,rfl,hBl,hS⟩:=hrel;clear h4;by_cases hlt:i<kv.length;rotate_left
    ·have d1:¬ (i:Int)<(kv.length:Int):=by omega
     have HBl:=uQ (show Bl<=(j+1)*1000000 by have:=sH.o.2;have:=Hj.o.2;have h1:(j+1)*1000000=j*1000000+1000000:=Nat.succ_mul ..;omega);have hS2:Sat w0 wr (bf ii mi Bi::pt q (.cells #[ptr pa,ptr pb] 103 (0,0))::jH kp ml Bl::G):=hS.sb;have hS3:=FU.o _ _ _ hS2;clear hlt hi hBl hS hS2;go_wp2_with fail
     go_roundg (2-(j+1))
     case measure=>have:=Hj.o.1;omega
     case rel=>exact ⟨j+1,Bl,ml,rfl,Hj.o.1,by first|rfl|go_num,HBl.o,hS3⟩
    have d1:(i:Int)<(kv.length:Int):=oQ;have hwi:IntKind.i64.wrap ((i:Int)+1)=(i:Int)+1:=acO _ (by have:=sH.o.2;omega);obtain ⟨⟨k,pl⟩,hq⟩:∃ x,kv[i]?=some x:=⟨_,aaJ hlt⟩;have jG:=uQ (show k.length=32 from sH.o.1 _ (acr hq));obtain ⟨bk,off,c',hsv,hcell⟩:=iL (f:=λq:aj.Bs×Seg.aZ=>aB q.1) (k:=32) (λq hq=>by rw [aP];exact sH.o.1 q hq) (Sat.rd hS) hq aG;cases hsv;have aS:=uQ (And.intro hlt hBl);clear hq hlt hi hBl
    go_wp2_with (first
     |((with_reducible refine bC ⟨?_⟩);refine iD (b:=bk) (o:=off+i*32) (aB k) ah hcell underlying34 rfl zE0 ?_)
     |(with_reducible apply eG))
    refine ⟨eU Nu hS rfl ?_⟩;intro b10 w5 h5;go_wp2_with (with_reducible apply bW);refine ⟨fG (aB k).toArray h5 ah ah (by rw [abA,aP,jG.o];rfl) bU yV0 (by rw [ad7];exact uH _) ?_⟩;intro w6 h6;clear hS h5 hcell;go_wp2_with ((with_reducible refine bC ⟨?_⟩);refine iC h6 ah aK underlying34 rfl yV0 ?_);refine (akI (by have:=aS.o;have:=Hj.o;have:=sH.o.2;omega) jG.o 1 (h6.sb:Sat w0 w6 (jH kp ml Bl::aC 34 32 (.slice (some ⟨bk,off,none⟩) kv.length kc) (kv.flatMap λq=>aB q.1)::bf ii mi Bi::pt q (.cells #[ptr pa,ptr pb] 103 (0,0))::G))).mono ?_;rintro e w7 ⟨v,rfl,h7⟩;clear h6;go_wp2_with fail
    go_roundg (kv.length-(i+1))
    case measure=>have:=aS.o.1;omega
    case rel=>exact ⟨i+1,Bl+1,_,rfl,aS.o.1,by first|rfl|go_num,by have:=aS.o.2;omega,h7.sb⟩
  obtain rfl:j=2:=by omega
  have U9:=uQ JY;clear hj hj2 JY;go_wp2_with fail;refine (aiV (by have:=U9.o;omega) (hS.sb:Sat w0 wr (jH kp mk Bk::pt q (.cells #[ptr pa,ptr pb] 103 (0,0))::sF pa pb ia ib B1 B2 N1 N2 ua ub ta tb mi us F))).mono ?_;rintro e w3 ⟨v,rfl,kv,⟨Qr,BR,Gz⟩,h3⟩;clear hS;obtain ⟨ka,kc,rfl⟩:=iP (f:=λq:aj.Bs×Int=>aB q.1) (k:=32) (l:=kv) (λq hq=>by rw [aP];exact BR q hq) (Sat.rd h3) aG;have sH:=uQ (And.intro BR (show kv.length<=2000000 from adT Gz U9.o));clear Qr BR Gz;go_wp2_with fail
  go_loopg [5,46] kv.length (λg ov iq wr=>∃ (i:Nat),g=kv.length-i/\i<=kv.length/\ov=.slice none 0 0/\iq=.int .i64 i/\Sat w0 wr (aC 34 32 (.slice ka kv.length kc) (kv.flatMap λq=>aB q.1)::jH kp mk Bk::pt q (.cells #[ptr pa,ptr pb] 103 (0,0))::sF pa pb ia ib B1 B2 N1 N2 ua ub ta tb mi us F))
  case atStart=>exact ⟨0,rfl,ad4 _,rfl,rfl,h3⟩
  case round=>
   obtain ⟨i,rfl,hi,rfl,rfl,hS⟩:=hrel;clear h3;by_cases hlt:i<kv.length
   focus
    have d1:(i:Int)<(kv.length:Int):=oQ;have hwi:IntKind.i64.wrap ((i:Int)+1)=(i:Int)+1:=acO _ (by have:=sH.o.2;omega);obtain ⟨⟨k,pz⟩,hq⟩:∃ x,kv[i]?=some x:=⟨_,aaJ hlt⟩;have jG:=uQ (show k.length=32 from sH.o.1 _ (acr hq));obtain ⟨bk,off,c',hsv,hcell⟩:=iL (f:=λq:aj.Bs×Int=>aB q.1) (k:=32) (λq hq=>by rw [aP];exact sH.o.1 q hq) (Sat.rd hS) hq aG;cases hsv;have aS:=uQ hlt;have HC:=uQ (λ(w':World) (hw:Sat w0 w' (bZ pa N1 ia ua ta::bZ pb N2 ib ub tb::bf ia mi B1::aC 205 3 ua (us.flatMap bJ)::bf ib mi B2::aC 205 3 ub (us.flatMap bJ)::F))=>show w'.cell? ⟨pa,1,none⟩=some (ptr ia)/\w'.cell? ⟨pb,1,none⟩=some (ptr ib) from ⟨hw.cellP aK 1 rfl,hw.cellP aT 1 rfl⟩);obtain ⟨pl,hpl⟩:∃ pl,(mi k).getD Seg.aZ.zero=pl:=⟨_,rfl⟩;obtain ⟨ZH,YZ⟩:∃ ok,(mi k).isSome=ok:=⟨_,rfl⟩;have Hpl:=uQ hpl;have Vq:=uQ YZ;clear hq hlt hi hpl YZ
    go_wp2_with (first
     |((with_reducible refine bC ⟨?_⟩);refine iD (b:=bk) (o:=off+i*32) (aB k) ah hcell underlying34 rfl zE0 ?_)
     |(with_reducible apply eG))
    refine ⟨eU Nu hS rfl ?_⟩;intro b12 w5 h5;go_wp2_with (with_reducible apply bW);refine ⟨fG (aB k).toArray h5 ah ah (by rw [abA,aP,jG.o];rfl) bU yV0 (by rw [ad7];exact uH _) ?_⟩;intro w6 h6;clear hS h5 hcell
    repeat (first|go_skip|(with_reducible apply OU 15)|go_values|go_guarded|go_step|go_upon)
    refine ⟨?_⟩;have vN:=h6.drew;clear h6;have hG:World.cell? _ ⟨pa,1,none⟩=some (ptr ia)/\World.rangeAt _ b12 0 (aB k):=⟨(HC.o _ (vN.sb)).1,qp (vN.pk (A:=pt b12 (.cells (aB k).toArray 34 (0,0))))⟩;refine eF [5,6,7,8,10,11] (λw'=>w'.cell? ⟨pa,1,none⟩=some (ptr ia)/\w'.rangeAt b12 0 (aB k)) au ?_;refine rP 0 ?_ (y:=bD);refine rP 1 ?_ (y:=iG);refine rP 2 ?_ (y:=dh);refine rt 3 (h:=?_);refine gJ 4 ay au bP (lM (b:=b12) (o:=0) (aB k) ah underlying34 rfl zE0 (λw hw=>hw.2)) aQ gQ ?_;clear hG;refine Io 5 9 ay ay au (λK hK=>?_) (λK hK=>?_)
    focus
     (refine jB au ay ay ?_)
     refine (Gj (k:=k) (adT H1.o aG) jG.o (vN.sb:Sat w0 _ (bf ia mi B1::pt b12 (.cells (aB k).toArray 34 (0,0))::aC 34 32 (.slice (some ⟨bk,off,none⟩) kv.length kc) (kv.flatMap λq=>aB q.1)::jH kp mk Bk::pt q (.cells #[ptr pa,ptr pb] 103 (0,0))::bZ pa N1 ia ua ta::aC 205 3 ua (us.flatMap bJ)::bZ pb N2 ib ub tb::bf ib mi B2::aC 205 3 ub (us.flatMap bJ)::F))).mono ?_;rintro ee U1 ⟨v,rfl,rfl,hx1⟩;refine hK _ _ (.inl rfl) ?_;clear hK vN;refine rP 6 ?_ (y:=bD);refine rP 7 ?_ (y:=(nU ay bY));refine rP 8 ?_ (y:=(nU ay bY));refine cZ 9 ay au (λK hK=>?_);refine zn (yP) hx1 rfl ?_;intro b13 U2 hx2;refine hK _ _ (.inr (.inl ⟨(HC.o _ (hx2.sb)).1,qp (hx2.pk (A:=pt b12 (.cells (aB k).toArray 34 (0,0))))⟩)) ?_;clear hK hx1
    rotate_left
    focus
     refine zn (yP) vN rfl ?_;intro b13 U1 hx1;refine hK _ _ (.inr (.inl ⟨(HC.o _ (hx1.sb)).1,qp (hx1.pk (A:=pt b12 (.cells (aB k).toArray 34 (0,0))))⟩)) ?_;clear hK vN;refine cZ 5 ay au (λK hK=>?_)
     (refine jB au ay ay ?_)
     refine (Gj (k:=k) (adT H1.o aG) jG.o (hx1.sb:Sat w0 _ (bf ia mi B1::pt b13 (.cells (bT Seg.aZ.zero).toArray 115 (0,0))::pt b12 (.cells (aB k).toArray 34 (0,0))::aC 34 32 (.slice (some ⟨bk,off,none⟩) kv.length kc) (kv.flatMap λq=>aB q.1)::jH kp mk Bk::pt q (.cells #[ptr pa,ptr pb] 103 (0,0))::bZ pa N1 ia ua ta::aC 205 3 ua (us.flatMap bJ)::bZ pb N2 ib ub tb::bf ib mi B2::aC 205 3 ub (us.flatMap bJ)::F))).mono ?_;rintro ee U2 ⟨v,rfl,rfl,hx2⟩;refine hK _ _ (.inl rfl) ?_;clear hK hx1;refine rP 6 ?_ (y:=bD);refine rP 7 ?_ (y:=(nU ay bY));refine rP 8 ?_ (y:=(nU ay bY))
    all_goals
     rw [Hpl.o,Vq.o];refine cZ 10 ay au (λK hK=>?_);refine pI (cs':=(bT pl).toArray) (hx2.sb:Sat w0 _ (pt b13 (.cells (bT Seg.aZ.zero).toArray 115 (0,0))::pt b12 (.cells (aB k).toArray 34 (0,0))::aC 34 32 (.slice (some ⟨bk,off,none⟩) kv.length kc) (kv.flatMap λq=>aB q.1)::jH kp mk Bk::pt q (.cells #[ptr pa,ptr pb] 103 (0,0))::sF pa pb ia ib B1 B2 N1 N2 ua ub ta tb mi us F)) ay ay ah bU bG au ah ?_;intro qW h20;refine hK _ _ (.inl rfl) ?_;clear hK hx2;refine rP 11 ?_ (y:=jU);refine dX au ?_
     repeat (first|go_skip|(with_reducible apply OU 16)|go_values|go_guarded|go_step|go_upon)
     refine ⟨?_⟩;have Ed:=h20.drew;clear h20;have hG:World.cell? _ ⟨pb,1,none⟩=some (ptr ib)/\World.rangeAt _ b12 0 (aB k):=⟨(HC.o _ (Ed.sb)).2,qp (Ed.pk (A:=pt b12 (.cells (aB k).toArray 34 (0,0))))⟩;refine eF [5,6,7,8,10,11] (λw'=>w'.cell? ⟨pb,1,none⟩=some (ptr ib)/\w'.rangeAt b12 0 (aB k)) au ?_;refine rP 0 ?_ (y:=bD);refine rP 1 ?_ (y:=iG);refine rP 2 ?_ (y:=dh);refine rt 3 (h:=?_);refine gJ 4 ay au bP (lM (b:=b12) (o:=0) (aB k) ah underlying34 rfl zE0 (λw hw=>hw.2)) aQ gQ ?_;clear hG;refine Io 5 9 ay ay au (λK hK=>?_) (λK hK=>?_)
     focus
      (refine jB au ay ay ?_)
      refine (Gj (k:=k) (adT H2.o aG) jG.o (Ed.sb:Sat w0 _ (bf ib mi B2::pt b13 (.cells (bT pl).toArray 115 (0,0))::pt b12 (.cells (aB k).toArray 34 (0,0))::aC 34 32 (.slice (some ⟨bk,off,none⟩) kv.length kc) (kv.flatMap λq=>aB q.1)::jH kp mk Bk::pt q (.cells #[ptr pa,ptr pb] 103 (0,0))::bZ pa N1 ia ua ta::bf ia mi B1::aC 205 3 ua (us.flatMap bJ)::bZ pb N2 ib ub tb::aC 205 3 ub (us.flatMap bJ)::F))).mono ?_;rintro ee U1 ⟨v,rfl,rfl,hx1⟩;refine hK _ _ (.inl rfl) ?_;clear hK Ed;refine rP 6 ?_ (y:=bD);refine rP 7 ?_ (y:=(nU ay bY));refine rP 8 ?_ (y:=(nU ay bY));refine cZ 9 ay au (λK hK=>?_);refine zn (yP) hx1 rfl ?_;intro b15 U2 hx2;refine hK _ _ (.inr (.inl ⟨(HC.o _ (hx2.sb)).2,qp (hx2.pk (A:=pt b12 (.cells (aB k).toArray 34 (0,0))))⟩)) ?_;clear hK hx1
     rotate_left
     focus
      refine zn (yP) Ed rfl ?_;intro b15 U1 hx1;refine hK _ _ (.inr (.inl ⟨(HC.o _ (hx1.sb)).2,qp (hx1.pk (A:=pt b12 (.cells (aB k).toArray 34 (0,0))))⟩)) ?_;clear hK Ed;refine cZ 5 ay au (λK hK=>?_)
      (refine jB au ay ay ?_)
      refine (Gj (k:=k) (adT H2.o aG) jG.o (hx1.sb:Sat w0 _ (bf ib mi B2::pt b15 (.cells (bT Seg.aZ.zero).toArray 115 (0,0))::pt b13 (.cells (bT pl).toArray 115 (0,0))::pt b12 (.cells (aB k).toArray 34 (0,0))::aC 34 32 (.slice (some ⟨bk,off,none⟩) kv.length kc) (kv.flatMap λq=>aB q.1)::jH kp mk Bk::pt q (.cells #[ptr pa,ptr pb] 103 (0,0))::bZ pa N1 ia ua ta::bf ia mi B1::aC 205 3 ua (us.flatMap bJ)::bZ pb N2 ib ub tb::aC 205 3 ub (us.flatMap bJ)::F))).mono ?_;rintro ee U2 ⟨v,rfl,rfl,hx2⟩;refine hK _ _ (.inl rfl) ?_;clear hK hx1;refine rP 6 ?_ (y:=bD);refine rP 7 ?_ (y:=(nU ay bY));refine rP 8 ?_ (y:=(nU ay bY))
     all_goals
      rw [Hpl.o,Vq.o];refine cZ 10 ay au (λK hK=>?_);refine pI (cs':=(bT pl).toArray) (hx2.sb:Sat w0 _ (pt b15 (.cells (bT Seg.aZ.zero).toArray 115 (0,0))::pt b13 (.cells (bT pl).toArray 115 (0,0))::pt b12 (.cells (aB k).toArray 34 (0,0))::aC 34 32 (.slice (some ⟨bk,off,none⟩) kv.length kc) (kv.flatMap λq=>aB q.1)::jH kp mk Bk::pt q (.cells #[ptr pa,ptr pb] 103 (0,0))::sF pa pb ia ib B1 B2 N1 N2 ua ub ta tb mi us F)) ay ay ah bU bG au ah ?_;intro IV h30;refine hK _ _ (.inl rfl) ?_;clear hK hx2;refine rP 11 ?_ (y:=jU);refine dX au ?_;have hne:=ajJ pl;have hbn:(ZH != ZH)=false:=bne_self_eq_false ..
      go_wp2_with (first
       |((with_reducible apply EM);refine ⟨?_⟩;refine EN (by first|rfl|kernel_rfl) ?_)
       |((with_reducible refine bC ⟨?_⟩);refine iC (cs:=(bT pl).toArray) h30 ah aT underlying115 rfl au ?_)
       |((with_reducible refine bC ⟨?_⟩);refine iC (cs:=(bT pl).toArray) h30 ah aK underlying115 rfl au ?_))
      go_roundg (kv.length-(i+1))
      case measure=>have:=aS.o;omega
      case rel=>exact ⟨i+1,rfl,aS.o,rfl,by first|rfl|go_num,h30.sb⟩
   have d1:¬ (i:Int)<(kv.length:Int):=oQ;have hS2:Sat w0 wr (sF pa pb ia ib B1 B2 N1 N2 ua ub ta tb mi us F):=hS.sb;clear hlt hi hS;obtain ⟨uaa,Ur,rfl⟩:=iP (f:=bJ) (k:=3) (l:=us) (λu _=>tN u) (Sat.rd (hS2.pick fE)) aG;obtain ⟨uba,IE,rfl⟩:=iP (f:=bJ) (k:=3) (l:=us) (λu _=>tN u) (Sat.rd (hS2.pick (aU (aU iw)))) aG;have e2:wr.cell? ⟨pa,2,none⟩=some (.slice uaa us.length Ur):=hS2.cellP aK 2 rfl;go_wp2_with fail;clear e2
   go_loopg [5,87] us.length (λg ov iq wr=>∃ (i:Nat),g=us.length-i/\i<=us.length/\ov=.slice none 0 0/\iq=.int .i64 i/\Sat w0 wr (sF pa pb ia ib B1 B2 N1 N2 (.slice uaa us.length Ur) (.slice uba us.length IE) ta tb mi us F))
   case atStart=>exact ⟨0,rfl,ad4 _,rfl,rfl,hS2⟩
   case round=>
    obtain ⟨i,rfl,hi,rfl,rfl,hS⟩:=hrel;clear hS2;by_cases hlt:i<us.length;rotate_left
    ·have d2:¬ (i:Int)<(us.length:Int):=by omega
     clear hlt hi;go_wp2_with fail;go_ret;exact ⟨_,rfl,rfl,hS⟩
    have d2:(i:Int)<(us.length:Int):=oQ;have hwi:IntKind.i64.wrap ((i:Int)+1)=(i:Int)+1:=acO _ zI0;obtain ⟨u,hu⟩:∃ u,us[i]?=some u:=⟨_,aaJ hlt⟩;obtain ⟨bk,off,c',hsv,hcell⟩:=iL (f:=bJ) (k:=3) (λu _=>tN u) (Sat.rd (hS.pick fE)) hu aG;cases hsv;obtain ⟨bk2,off2,c2',hsv,hcell2⟩:=iL (f:=bJ) (k:=3) (λu _=>tN u) (Sat.rd (hS.pick (aU (aU iw)))) hu aG;cases hsv
    have HG:=uQ (λ(w':World) (A:aF) (hw:Sat w0 w' (A::sF pa pb ia ib B1 B2 N1 N2 (.slice (some ⟨bk,off,none⟩) us.length Ur) (.slice (some ⟨bk2,off2,none⟩) us.length IE) ta tb mi us F))=>show w'.cell? ⟨pb,2,none⟩=some (.slice (some ⟨bk2,off2,none⟩) us.length IE)/\w'.cell? ⟨bk2,off2+i*3+2,none⟩=some (.int .i64 u.live) from ⟨hw.cellP (aU iw) 2 rfl,by
     obtain ⟨_,_,_,e,hc⟩:=iL (f:=bJ) (k:=3) (λu _=>tN u) (Sat.rd (hw.pick (aU (aU (aU iw))))) hu aG;cases e;exact hc 2 _ rfl⟩)
    have aS:=uQ hlt;clear hu hlt hi hcell2
    go_wp2_with (first
     |((with_reducible refine bC ⟨?_⟩);refine iD (b:=bk) (o:=off+i*3) (bJ u) ah hcell underlying205 rfl au ?_)
     |(with_reducible apply eG))
    refine ⟨eU I7 hS rfl ?_⟩;intro b18 w5 h5;go_wp2_with (with_reducible apply bW);refine ⟨fG (bJ u).toArray h5 ah ah ah bU au ah ?_⟩;intro w6 h6;clear hS h5 hcell
    repeat (first|go_skip|(with_reducible apply OU 23)|go_values|go_guarded|go_step|go_upon)
    refine ⟨?_⟩;have vN:=h6.drew;clear h6;have hbl:(u.live != u.live)=false:=bne_self_eq_false ..;have hG:World.cell? _ ⟨pb,2,none⟩=some (.slice (some ⟨bk2,off2,none⟩) us.length IE)/\World.cell? _ ⟨bk2,off2+i*3+2,none⟩=some (.int .i64 u.live)/\World.cell? _ ⟨b18,2,none⟩=some (.int .i64 u.live):=⟨(HG.o _ _ vN).1,(HG.o _ _ vN).2,vN.cellP aK 2 rfl⟩;refine eF [18,19] (λw'=>w'.cell? ⟨pb,2,none⟩=some (.slice (some ⟨bk2,off2,none⟩) us.length IE)/\w'.cell? ⟨bk2,off2+i*3+2,none⟩=some (.int .i64 u.live)/\w'.cell? ⟨b18,2,none⟩=some (.int .i64 u.live)) au ?_;refine rP 0 ?_ (y:=bD);refine rP 1 ?_ (y:=bD);refine rP 2 ?_ (y:=iG);refine rP 3 ?_ (y:=dh);refine rt 4 (h:=?_);refine rP 5 ?_ (y:=(xw ay bY));refine rP 6 ?_ (y:=lZ);refine rP 7 ?_ (y:=bD);refine rP 8 ?_ (y:=(iI ah ay));refine rP 9 ?_ (y:=(adL ah ay));refine rP 10 ?_ (y:=(ng ah ay bY))
    refine gJ 11 ay au bP (mX ah ay au yC0) aQ gQ ?_;refine rP 12 ?_ (y:=(iI ah ay));refine rP 13 ?_ (y:=(qA ah ay ay bY));refine rP 14 ?_ (y:=(ng ah ay bY));refine gJ 15 ay au bP (mX ah ay au yC0) aQ gQ ?_;refine rP 16 ?_ (y:=(ng ah ay bY));refine gJ 17 ay au bP (mX ah ay au yC0) aQ gQ ?_;clear hG;refine rP 18 ?_ (y:=(qy ah ay ay bY));refine rP 19 ?_ (y:=(ny ah ay ay));refine dX au ?_
    try simp only [jI]
    try go_frame
    go_wp2_with fail
    go_roundg (us.length-(i+1))
    case measure=>have:=aS.o;omega
    case rel=>exact ⟨i+1,rfl,aS.o,rfl,by first|rfl|go_num,vN.drop⟩
end
end Go.Proofs.Y
namespace Go.Seg
open Go.aj (Bs aJ dK)
open Go.Rep (dI)
theorem ahe (R:List (Nat×Bs)) (d:Nat×Bs):jP (R++[d])=jP R++(if jV d.2=true then [Rep.fault (d.1:Int) (aj.scan d.2).2.1] else []):=by
 unfold jP;rw [anP,aef];by_cases h:jV d.2=true
 ·rw [adU h];simp [h]
 ·rw [abL h];simp [h]
theorem ahf (last:Int) (R:List (Nat×Bs)) (d:Nat×Bs):sZ last (R++[d])=sZ last R++(if last<(d.1:Int) then [⟨3,(d.1:Int),0⟩] else []):=by
 unfold sZ;rw [anP,aef];by_cases h:last<(d.1:Int)
 ·rw [adU h];simp [h]
 ·rw [abL h];simp [h]
theorem Yg (R:List (Nat×Bs)):(jP R).length<=R.length:=by unfold jP;rw [abl];exact aiK _ _
theorem Yh (last:Int) (R:List (Nat×Bs)):(sZ last R).length<=R.length:=by unfold sZ;rw [abl];exact aiK _ _
end Go.Seg
namespace Go.Proofs.Y
open Go.ak
def nO (f:Rep.dI):List Value:=(dW f).toList
theorem xX (f:Rep.dI):(nO f).length=36:=rfl
def Fa (w0:World) (fl:List Rep.dI) (F:List aF) (v:Value) (w:World):Prop:=
 ∃ fv:Value,v=.tuple #[fv,errno 0]/\(∃ a c,fv=.slice a fl.length c)/\Sat w0 w (aC 36 36 fv (fl.flatMap nO)::F)
def I9 (M:ak) (L:Seg.Log) (R:List (Nat×aj.Bs)):Prop:=aA.there M (aA.name aA.idx (Seg.jA (-1) R))=false\/aA.there M (aA.name aA.use (Seg.jA (-1) R))=false \/
 ∃ (K' E' B':Nat) (us:List Rep.Use) (pl:List (aj.Bs×Seg.aZ)) (D:List (Nat×List aj.aJ)),Seg.nM K' 1048576 E' B' 999 L M D/\D≠[]/\Seg.sN D (Seg.dw D) us pl/\Seg.HF M (Seg.dw D) pl us/\Seg.jA (-1) R=Seg.dw D
theorem X3 (hL:L.Ok) (hM:M.Ok K) (hnm:∀ f∈M.list,f.size<=4000000000) (hlen:∀ d∈R,d.2.length<=16777216) (hn:R.length<=10000) (hlim:∀ d∈R,d.1<1048576) (hR:ys.map (·.1)=R) (Zu:M.size ByteArray.empty=(0,9))
  (hld:Seg.mQ (aA.newest M) R=[]->0<=Seg.jA (-1) R->I9 M L R) (hH:Ro w0 F Half) (hok:∀ y∈ys,qI y) (hz:∀ y∈ys,vV y∈zs)
  (h:Sat w0 w (aC 189 4 (.slice la ys.length lc) (ys.flatMap cO)::dY zs::aI m M::aV p m L::F)) :
  Calls prog 42 #[ptr m,ptr p,.slice la ys.length lc] w (aN λv w'=>Fa w0 (Seg.mQ (aA.newest M) R) (aC 189 4 (.slice la ys.length lc) (ys.flatMap cO)::dY zs::aI m M::aV p m L::F) v w'):=by
 have HL:=uQ hL;have HM:=uQ hM;have AO:=uQ hnm;have Hlen:=uQ hlen;have Hn:=uQ hn;have HR:=uQ hR;have OB:=uQ Zu;have Hld:=uQ hld;have HH:=uQ hH;have bI:=uQ hok;have Hz:=uQ hz;have Jj:=uQ hlim;have og:=uQ (show ys.length<=10000 by have:=aeO List.length hR;rw [abl]at this;omega);clear hL hM hnm hlen hn hR Zu hld hH hok hz hlim;have h0:Sat w0 w (aC 189 4 (.slice la ys.length lc) (ys.flatMap cO)::dY zs::aC 36 36 (.slice none 0 0) (([]:List Rep.dI).flatMap nO)::aI m M::aV p m L::F):=(Sat.dO.2 h).sb;clear h;go_enter func42,ntmps42;go_wp2_with fail
 go_loopg [8,21] ys.length (λg ov iq wr=>∃ i:Nat,g=ys.length-i/\i<=ys.length/\iq=.int .i64 i/\(∃ a c,ov=.slice a (Seg.jP (R.take i)).length c)/\Sat w0 wr (aC 189 4 (.slice la ys.length lc) (ys.flatMap cO)::dY zs::aC 36 36 ov ((Seg.jP (R.take i)).flatMap nO)::aI m M::aV p m L::F))
 case atStart=>exact ⟨0,rfl,ad4 _,rfl,⟨none,0,rfl⟩,h0⟩
 case round=>
  obtain ⟨i,rfl,hi,rfl,⟨oa,oc,rfl⟩,hS2⟩:=hrel;clear h0;by_cases hlt:i<ys.length
  focus
   have c1:(i:Int)<(ys.length:Int):=oQ;have hwi:IntKind.i64.wrap ((i:Int)+1)=(i:Int)+1:=acO _ (by have:=og.o;omega);obtain ⟨y,hy⟩:∃ y,ys[i]?=some y:=⟨_,aaJ hlt⟩;obtain ⟨bk,off,rfl,hcell⟩:=CG (Sat.rd hS2) hy;have hym:=acr hy;have dP:=uQ (show R.take (i+1)=R.take i++[y.1] by rw [aeN,<-HR.o,ad1,hy];rfl);have aS:=uQ hlt;have hcl:∀ j v,[Value.int .i64 y.1.1,y.2.2,.int .i64 (aj.scan y.1.2).2.1,.int .i64 (aj.scan y.1.2).2.2][j]?=some v->wr.cell? ⟨bk,off+i*4+j,none⟩=some v:=hcell;have Hmy:=uQ (show cO y=[Value.int .i64 y.1.1,y.2.2,.int .i64 (aj.scan y.1.2).2.1,.int .i64 (aj.scan y.1.2).2.2] from rfl);obtain ⟨MG,MH,hsv⟩:=(bI.o y hym).sl;have kE:=uQ (show (Seg.jP (R.take i)).length<=10000 by have h1:=Seg.Yg (R.take i);rw [adt]at h1;have:=Hn.o;omega);have qj:=uQ (Seg.ahe (R.take i) y.1);rw [<-dP.o]at qj
   have Hb:=uQ (show Seg.jV y.1.2=((aj.scan y.1.2).2.2 != 0) from rfl);clear hlt hi hy hym hcell
   go_wp2_with (first
    |((with_reducible refine bC ⟨?_⟩);refine iD (b:=bk) (o:=off+i*4) (cO y) ah hcl underlying189 rfl au ?_)
    |(with_reducible apply eG))
   refine ⟨eU Du hS2 rfl ?_⟩;intro b5 w3 h3;go_wp2_with (with_reducible apply bW);refine ⟨fG (cO y).toArray h3 ah ah ah bU au (by rw [Hmy.o,hsv];rfl) ?_⟩;intro w4 h4;clear h3 hS2 hcl;have e3:w4.cell? ⟨b5,3,none⟩=some (.int .i64 (aj.scan y.1.2).2.2):=h4.cellP aK 3 rfl;by_cases hz:(aj.scan y.1.2).2.2=0
   ·have hb0:((aj.scan y.1.2).2.2 != 0)=false:=by rw [hz];rfl
    have ig:=uQ (show Seg.jP (R.take (i+1))=Seg.jP (R.take i) by rw [qj.o,Hb.o,hb0];exact aei _);clear hz;go_wp2_with fail
    go_roundg (ys.length-(i+1))
    case measure=>have:=aS.o;omega
    case rel=>exact ⟨i+1,rfl,aS.o,by first|rfl|go_num,⟨oa,oc,by rw [ig.o]⟩,by rw [ig.o];exact h4.drop⟩
   ·have hb0:((aj.scan y.1.2).2.2 != 0)=true:=ahV.2 hz;have ig:=uQ (show Seg.jP (R.take (i+1))=Seg.jP (R.take i)++[G7 y.1.2 y.1.1] by rw [qj.o,Hb.o,hb0];rfl);clear hz;go_wp2_with ((with_reducible refine bC ⟨?_⟩);refine iC h4 ah aK underlying189 rfl au ?_);refine (akl h4).mono ?_;rintro e w5 ⟨v,rfl,rfl,h5⟩;clear h4 e3;generalize G7 y.1.2 y.1.1=ff at *
    have h6:Sat w0 w5 (aC 36 36 (.slice oa (Seg.jP (R.take i)).length oc) ((Seg.jP (R.take i)).flatMap nO)::aC 189 4 (.slice (some ⟨bk,off,none⟩) ys.length lc) (ys.flatMap cO)::dY zs::aI m M::aV p m L::F):=h5.sb;clear h5
    go_wp2_with (first
     |((with_reducible refine jh ⟨?_⟩);refine jg (e:=36) (sz:=36) (dF:=72) au h6 ah (cs:=dW ff) rfl ah bG ?_;intro bN wN hN)
     |(with_reducible apply fZ))
    refine ⟨jF 36 36 72 au hN ah ah aT aK ah bG ah (by rw [iK (k:=36) (λy _=>xX y)];have:=kE.o;omega) bG bG (ys:=nO ff) rfl ?_⟩;intro b' n' c' kC fP;have hn':n'=(Seg.jP (R.take i)).length+1:=by
     obtain ⟨_,_,_,he,hl2,_⟩:=Sat.rd fP;cases he;rw [aa7,iK (k:=36) (λy _=>xX y),xX]at hl2;omega
    subst hn';have Hl2:=uQ (show (Seg.jP (R.take (i+1))).length=(Seg.jP (R.take i)).length+1 by rw [ig.o,aa7];rfl);have h15:Sat w0 kC (aC 36 36 (.slice (some ⟨b',0,none⟩) ((Seg.jP (R.take i)).length+1) c') ((Seg.jP (R.take (i+1))).flatMap nO)::aC 189 4 (.slice (some ⟨bk,off,none⟩) ys.length lc) (ys.flatMap cO)::dY zs::aI m M::aV p m L::F):=by
     rw [ig.o,aeB,aen,aiq,aei];exact fP
    clear fP;go_wp2_with fail
    go_roundg (ys.length-(i+1))
    case measure=>have:=aS.o;omega
    case rel=>exact ⟨i+1,rfl,aS.o,by first|rfl|go_num,⟨_,_,by rw [Hl2.o]⟩,h15.sb⟩
  have c1:¬ (i:Int)<(ys.length:Int):=oQ;have hRi:R.take i=R:=adZ (by rw [<-HR.o,abl];omega);rw [hRi]at hS2 ⊢;clear hlt hi hRi;go_wp2_with fail;have hcm:=agk Hlen.o (adT Hn.o aG) HR.o bI.o Hz.o hS2;clear hS2;refine hcm.mono ?_;rintro e qW ⟨v,rfl,rfl,hS3⟩;clear hcm;have HP:=uQ (show Seg.mQ (aA.newest M) R=Seg.jP R++Seg.sZ (Seg.jA (-1) R) R++Seg.Eb (Seg.jA (-1) R) (aA.newest M) from rfl);have adY:=uQ (show Seg.jA (-1) R<1048576 from Seg.Ph aG λd hd=>by have:=Jj.o d hd;omega);have Vm:=uQ (show (Seg.jP R).length<=10000 from adT (Seg.Yg R) Hn.o);unfold I9 at Hld;obtain ⟨last,hlast⟩:∃ x,x=Seg.jA (-1) R:=⟨_,rfl⟩;rw [<-hlast]at HP adY Hld ⊢;have aoA:=uQ hlast;clear hlast;have h0:Sat w0 qW (aC 189 4 (.slice la ys.length lc) (ys.flatMap cO)::dY zs::aC 36 36 (.slice oa (Seg.jP R).length oc) ((Seg.jP R).flatMap nO)::aI m M::aV p m L::F):=hS3;clear hS3
  go_wp2_with fail
  go_loopg [8,38] ys.length (λg ov iq wr=>∃ i:Nat,g=ys.length-i/\i<=ys.length/\iq=.int .i64 i/\∃ ab:List Rep.dI,ab=Seg.jP R++Seg.sZ last (R.take i)/\(∃ a c,ov=.slice a ab.length c)/\Sat w0 wr (aC 189 4 (.slice la ys.length lc) (ys.flatMap cO)::dY zs::aC 36 36 ov (ab.flatMap nO)::aI m M::aV p m L::F))
  case atStart=>exact ⟨0,rfl,ad4 _,rfl,Seg.jP R,(aei _).symm,⟨oa,oc,rfl⟩,h0⟩
  case round=>
   obtain ⟨i,rfl,hi,rfl,ab,hab,⟨oH,oI,rfl⟩,hS2⟩:=hrel;have xF:=uQ hab;clear hab;clear h0;by_cases hlt:i<ys.length
   focus
    have c1:(i:Int)<(ys.length:Int):=oQ;have hwi:IntKind.i64.wrap ((i:Int)+1)=(i:Int)+1:=acO _ (by have:=og.o;omega);obtain ⟨y,hy⟩:∃ y,ys[i]?=some y:=⟨_,aaJ hlt⟩;obtain ⟨bk,off,rfl,hcell⟩:=CG (Sat.rd hS2) hy;have hym:=acr hy;have dP:=uQ (show R.take (i+1)=R.take i++[y.1] by rw [aeN,<-HR.o,ad1,hy];rfl);have aS:=uQ hlt;have hcl:∀ j v,[Value.int .i64 y.1.1,y.2.2,.int .i64 (aj.scan y.1.2).2.1,.int .i64 (aj.scan y.1.2).2.2][j]?=some v->wr.cell? ⟨bk,off+i*4+j,none⟩=some v:=hcell;have Hmy:=uQ (show cO y=[Value.int .i64 y.1.1,y.2.2,.int .i64 (aj.scan y.1.2).2.1,.int .i64 (aj.scan y.1.2).2.2] from rfl);obtain ⟨MG,MH,hsv⟩:=(bI.o y hym).sl;have kE:=uQ (show ab.length<=20000 by rw [xF.o,aa7];have h1:=Seg.Yh last (R.take i);rw [adt]at h1;have:=Hn.o;have:=Vm.o;omega);have qj:=uQ (Seg.ahf last (R.take i) y.1);rw [<-dP.o]at qj;clear hlt hi hy hym hcell
    go_wp2_with (first
     |((with_reducible refine bC ⟨?_⟩);refine iD (b:=bk) (o:=off+i*4) (cO y) ah hcl underlying189 rfl au ?_)
     |(with_reducible apply eG))
    refine ⟨eU Du hS2 rfl ?_⟩;intro b5 w3 h3;go_wp2_with (with_reducible apply bW);refine ⟨fG (cO y).toArray h3 ah ah ah bU au (by rw [Hmy.o,hsv];rfl) ?_⟩;intro w4 h4;clear h3 hS2 hcl;have e0:w4.cell? ⟨b5,0,none⟩=some (.int .i64 y.1.1):=h4.cellP aK 0 rfl;by_cases hz:last<(y.1.1:Int);rotate_left
    ·have ig:=uQ (show ab=Seg.jP R++Seg.sZ last (R.take (i+1)) by rw [qj.o,abL hz,aei];exact xF.o);go_wp2_with fail
     go_roundg (ys.length-(i+1))
     case measure=>have:=aS.o;omega
     case rel=>exact ⟨i+1,rfl,aS.o,by first|rfl|go_num,ab,ig.o,⟨oH,oI,rfl⟩,h4.drop⟩
    ·have ig:=uQ (show ab++[(⟨3,(y.1.1:Int),0⟩:Rep.dI)]=Seg.jP R++Seg.sZ last (R.take (i+1)) by rw [qj.o,adU hz,<-ad2,<-xF.o]);have h6:Sat w0 w4 (aC 36 36 (.slice oH ab.length oI) (ab.flatMap nO)::pt b5 (.cells (cO y).toArray 189 (0,0))::aC 189 4 (.slice (some ⟨bk,off,none⟩) ys.length lc) (ys.flatMap cO)::dY zs::aI m M::aV p m L::F):=h4.sb;clear h4
     go_wp2_with (first
      |((with_reducible refine FX ⟨?_⟩);refine IW ah ah (λw=>LX 3 y.1.1 w) ?_)
      |((with_reducible refine jh ⟨?_⟩);refine jg (e:=36) (sz:=36) (dF:=72) au h6 ah (cs:=dW ⟨3,(y.1.1:Int),0⟩) rfl ah bG ?_;intro bN wN hN)
      |(with_reducible apply fZ))
     refine ⟨jF 36 36 72 au hN ah ah aT aK ah bG ah (by rw [iK (k:=36) (λy _=>xX y)];have:=kE.o;omega) bG bG (ys:=nO ⟨3,(y.1.1:Int),0⟩) rfl ?_⟩;intro b' n' c' kC fP;have hn':n'=(ab).length+1:=by
      obtain ⟨_,_,_,he,hl2,_⟩:=Sat.rd fP;cases he;rw [aa7,iK (k:=36) (λy _=>xX y),xX]at hl2;omega
     subst hn';have h15:Sat w0 kC (aC 36 36 (.slice (some ⟨b',0,none⟩) (ab.length+1) c') ((ab++[(⟨3,(y.1.1:Int),0⟩:Rep.dI)]).flatMap nO)::aC 189 4 (.slice (some ⟨bk,off,none⟩) ys.length lc) (ys.flatMap cO)::dY zs::aI m M::aV p m L::F):=by
      rw [aeB,aen,aiq,aei];exact fP.sb
     clear fP;go_wp2_with fail
     go_roundg (ys.length-(i+1))
     case measure=>have:=aS.o;omega
     case rel=>exact ⟨i+1,rfl,aS.o,by first|rfl|go_num,_,ig.o,⟨_,_,by rw [aa7];rfl⟩,h15.sb⟩
   have c1:¬ (i:Int)<(ys.length:Int):=oQ;have hRi:R.take i=R:=adZ (by rw [<-HR.o,abl];omega);have NI:=uQ (show ab=Seg.jP R++Seg.sZ last R by rw [xF.o,hRi]);clear hlt hi hRi xF;have Fe:=uQ (show Sat w0 wr (aI m M::aC 189 4 (.slice la ys.length lc) (ys.flatMap cO)::dY zs::aC 36 36 (.slice oH ab.length oI) (ab.flatMap nO)::aV p m L::F) from hS2.sb);have Hfn:=uQ (show ab.length<=20000 by rw [NI.o,aa7];have h1:=Seg.Yh last R;have:=Hn.o;have:=Vm.o;omega);clear hS2;rw [<-NI.o]at HP;clear NI;have hnw:=H7 HM.o AO.o Fe.o;generalize Zd:aA.newest M=nw at *
   have DK:=uQ Zd;clear Zd;go_wp2_with fail;refine hnw.mono ?_;rintro e oN ⟨v,rfl,rfl,h21⟩;clear hnw Fe;by_cases Y8:last<nw
   focus
    have HP2:=uQ (show Seg.mQ nw R=ab++[⟨3,nw,0⟩] by rw [HP.o];unfold Seg.Eb;rw [adU Y8]);have hS6:Sat w0 oN (aC 36 36 (.slice oH ab.length oI) (ab.flatMap nO)::aC 189 4 (.slice la ys.length lc) (ys.flatMap cO)::dY zs::aI m M::aV p m L::F):=h21.sb;clear h21
    go_wp2_with (first
     |((with_reducible refine FX ⟨?_⟩);refine IW ah ah (λw=>LX 3 nw w) ?_)
     |((with_reducible refine jh ⟨?_⟩);refine jg (e:=36) (sz:=36) (dF:=72) au hS6 ah (cs:=dW ⟨3,nw,0⟩) rfl ah bG ?_;intro bN wN hN)
     |(with_reducible apply fZ))
    refine ⟨jF 36 36 72 au hN ah ah aT aK ah bG ah (by rw [iK (k:=36) (λy _=>xX y)];have:=Hfn.o;omega) bG bG (ys:=nO ⟨3,nw,0⟩) rfl ?_⟩;intro b' n' c' kC fP;have hn':n'=(ab).length+1:=by
     obtain ⟨_,_,_,he,hl2,_⟩:=Sat.rd fP;cases he;rw [aa7,iK (k:=36) (λy _=>xX y),xX]at hl2;omega
    subst hn';have c5:(0:Int)<(((ab.length+1:Nat)):Int):=oQ;have h15:Sat w0 kC (aC 36 36 (.slice (some ⟨b',0,none⟩) (ab.length+1) c') ((Seg.mQ nw R).flatMap nO)::aC 189 4 (.slice la ys.length lc) (ys.flatMap cO)::dY zs::aI m M::aV p m L::F):=by
     rw [HP2.o,aeB,aen,aiq,aei];exact fP
    have nG:=uQ (show (Seg.mQ nw R).length=ab.length+1 by rw [HP2.o,aa7];rfl);clear fP;generalize ab.length+1=q at *
    go_wp2_with fail
    go_ret2
    refine ⟨_,rfl,?_⟩;rw [DK.o];exact ⟨_,rfl,⟨_,_,by rw [nG.o];rfl⟩,h15⟩
   have HP2:=uQ (show Seg.mQ nw R=ab by rw [HP.o];unfold Seg.Eb;rw [abL Y8];exact aei _);have h22:Sat w0 oN (aC 36 36 (.slice oH ab.length oI) (ab.flatMap nO)::aC 189 4 (.slice la ys.length lc) (ys.flatMap cO)::dY zs::aI m M::aV p m L::F):=h21.sb;clear h21;by_cases hab:0<ab.length
   focus
    generalize hq:ab.length=q at *
    have Hq:=uQ (show (Seg.mQ nw R).length=q by rw [HP2.o];exact hq);rw [<-HP2.o]at h22;clear hq;have c5:(0:Int)<(q:Int):=oQ;go_wp2_with fail
    go_ret2
    refine ⟨_,rfl,?_⟩;rw [DK.o];exact ⟨_,rfl,⟨_,_,by rw [Hq.o];rfl⟩,h22⟩
   have ahE:ab=[]:=ae9 oQ;subst ahE;by_cases hl0:last<0
   focus
    go_wp2_with fail
    go_ret2
    refine ⟨_,rfl,?_⟩;rw [DK.o];exact ⟨_,rfl,⟨_,_,by rw [HP2.o];rfl⟩,by rw [HP2.o];exact h22⟩
   have hl1:0<=last:=oQ;have DC:=uQ hl1;have hcase:=Hld.o HP2.o hl1;have bF:=uQ (show Seg.mQ nw R=[] from HP2.o);clear hab hl1 HP HP2;have h23:Sat w0 oN (aI m M::aC 189 4 (.slice la ys.length lc) (ys.flatMap cO)::dY zs::aV p m L::F):=h22.sb;clear h22
   have YV:∀ lH:World,Sat w0 lH (aI m M::aC 189 4 (.slice la ys.length lc) (ys.flatMap cO)::dY zs::aV p m L::F)->Fa w0 (Seg.mQ nw R) (aC 189 4 (.slice la ys.length lc) (ys.flatMap cO)::dY zs::aI m M::aV p m L::F) (.tuple #[.slice none 0 0,errno 0]) lH:=λlH hw=>
    ⟨_,rfl,⟨_,_,by rw [bF.o];rfl⟩,by rw [bF.o];exact Sat.dO.2 (hw.sb)⟩
   have NY:=uQ YV;clear YV bF;rcases hcase with ht|ht|⟨K',E',B',us,pl,D,hR',hne,hst,hf,hcom⟩
   ·have hlo:=Qv (p:=p) (n:=last) HM.o OB.o (.inl ht) h23;clear ht h23;go_wp2_with fail;refine hlo.mono ?_;rintro e lH ⟨v,rfl,rfl,qL⟩;go_wp2_with fail
    go_ret2
    refine ⟨_,rfl,?_⟩;rw [DK.o];exact NY.o _ qL
   ·have hlo:=Qv (p:=p) (n:=last) HM.o OB.o (.inr ht) h23;clear ht h23;go_wp2_with fail;refine hlo.mono ?_;rintro e lH ⟨v,rfl,rfl,qL⟩;go_wp2_with fail
    go_ret2
    refine ⟨_,rfl,?_⟩;rw [DK.o];exact NY.o _ qL
   ·obtain ⟨ld,hpl⟩:=hR'.QZ aG hst hne;obtain ⟨t1,t2⟩:=hf.there hR'.hd.keeps.calm.quiet;rw [<-hcom]at ld t1 t2;have hf1:=hf.one;have hf2:=hf.two;rw [<-hcom]at hf1 hf2;have hlo:=Y5 HL.o HM.o OB.o t1 t2 pl ld.key us ld.idx ld.uses hf1 hf2 ld.fits ld.lies (h23.sb:Sat w0 oN (aV p m L::aI m M::aC 189 4 (.slice la ys.length lc) (ys.flatMap cO)::dY zs::F));have HR':=uQ hR';have o9:=uQ hst;have Hpl:=uQ hpl;clear h23 hR' hne hf hcom ld hpl t1 t2 hf1 hf2 hst;go_wp2_with fail;refine hlo.mono ?_;rintro e lH ⟨v,rfl,qs,qi,uv,tv,rfl,qL⟩;clear hlo;go_wp2_with fail;refine (alO HR'.o aG o9.o.ends (Ro.os HH.o) (qL.sb:Sat w0 lH (aV p m L::aI m M::bZ qs last qi uv tv::bf qi (Tab.mapOf pl) pl.length::aC 205 3 uv (us.flatMap bJ)::aC 189 4 (.slice la ys.length lc) (ys.flatMap cO)::dY zs::F))).mono ?_;rintro e IU ⟨v,rfl,rs,ri,ruv,rtv,x,rfl,Ko,hx,YC⟩
    obtain ⟨e1,e2⟩:=aic o9.o hx.1;clear qL;go_wp2_with (with_reducible apply eG);refine ⟨eU pY YC rfl ?_⟩;intro b18 w24 YD;clear YC;go_wp2_with ((with_reducible refine bW ⟨?_⟩);refine fG (dW Rep.dI.zero) YD ah ah ah bU au ah ?_;intro w25 h27);rw [<-e1,<-e2]at h27;refine (differ_c (us:=us) (B1:=x.2) (B2:=pl.length) (adT hx.2.2.1 aG) (adT Hpl.o aG) (adT (ae7 HR'.o o9.o) aG) (h27.sb:Sat w0 w25 (bZ rs (Seg.dw D) ri ruv rtv::bf ri (Tab.mapOf pl) x.2::aC 205 3 ruv (us.flatMap bJ)::bZ qs last qi uv tv::bf qi (Tab.mapOf pl) pl.length::aC 205 3 uv (us.flatMap bJ)::aV p m L::aI m M::aC 189 4 (.slice la ys.length lc) (ys.flatMap cO)::dY zs::F))).mono ?_;rintro e w26 ⟨v,rfl,rfl,h28⟩;clear h27 YD;go_wp2_with fail
    go_ret2
    refine ⟨_,rfl,?_⟩;rw [DK.o];exact NY.o _ (h28.sb)
theorem alv (hM:M.Ok K) (s:ByteArray):(Seg.jY M s).1.Ok (K+1):=by
 unfold Seg.jY;split
 ·exact hM.mono oQ
 ·exact hM.remove _
theorem aga (hM:M.Ok K) (hK:K+8*R.length+10<=1099511627776) (hnm:∀ f∈M.list,f.size<=4000000000) (hlen:∀ d∈R,d.2.length<=16777216) (hn:R.length<=10000) (hlim:∀ d∈R,d.1<1048576) (hR:ys.map (·.1)=R)
  (P:Nat->ak->Prop) (hP0:P 0 M) (YL:∀ i M',P i M'->M'.Ok (K+6*i)/\((M'.size aA.tmp).2=0\/(M'.size aA.tmp).2=9)) (YM:∀ i M',∀ d∈R,P i M'->(Seg.lD M' d).2=0->P (i+1) (Seg.lD M' d).1)
  (hH:Ro w0 F Half) (hok:∀ y∈ys,qI y) (hz:∀ y∈ys,vV y∈zs) (h:Sat w0 w (aC 189 4 (.slice la ys.length lc) (ys.flatMap cO)::dY zs::aI m M::F)) :
  Calls prog 43 #[ptr m,.slice la ys.length lc] w (aN λv w'=>v=errno (Seg.cleared (Seg.kT (aA.newest M) R) R M).2/\Sat w0 w' (aI m (Seg.cleared (Seg.kT (aA.newest M) R) R M).1::F)):=by
 have hkn:=aiX hM hnm hlen (adT hn aG) hR hok hz h;have HK:=uQ hK;have Hlen:=uQ hlen;have Hn:=uQ hn;have Jj:=uQ hlim;have HR:=uQ hR;have NG:=uQ YL;have Vf:=uQ YM;have Vb:=uQ hP0;have HH:=uQ hH;have bI:=uQ hok;have Hz:=uQ hz;have og:=uQ (show ys.length=R.length by have:=aeO List.length hR;rwa [abl]at this);clear hK hnm hlen hn hlim hR YL YM hP0 hH hok hz hM h;generalize Seg.kT (aA.newest M) R=last at *
 have HC:=uQ (show Seg.cleared last R M=(if (Seg.jJ R M).2=0 then (if (Seg.lu last R.reverse (Seg.jJ R M).1).2=0 then (Seg.lu last R.reverse (Seg.jJ R M).1).1.dH else Seg.lu last R.reverse (Seg.jJ R M).1) else Seg.jJ R M) from rfl);go_enter func43,ntmps43;go_wp2_with fail;refine hkn.mono ?_;rintro e w1 ⟨v,rfl,rfl,h1⟩;clear hkn;go_wp2_with fail
 go_loopg [16] ys.length (λg iq wr=>∃ (i j:Nat) (Mi:ak),g=ys.length-i/\i<=ys.length/\j<=i/\iq=.int .i64 i/\P j Mi/\Seg.jJ (R.drop i) Mi=Seg.jJ R M/\Sat w0 wr (aC 189 4 (.slice la ys.length lc) (ys.flatMap cO)::dY zs::aI m Mi::F))
 case atStart=>exact ⟨0,0,M,rfl,ad4 _,ad4 _,rfl,Vb.o,rfl,h1⟩
 case round=>
  obtain ⟨i,j,Mi,rfl,hi,hji,rfl,JZ,hcl,hS2⟩:=hrel;clear h1;by_cases hlt:i<ys.length
  focus
   have c1:(i:Int)<(ys.length:Int):=oQ;have hwi:IntKind.i64.wrap ((i:Int)+1)=(i:Int)+1:=acO _ (by have:=og.o;have:=Hn.o;omega);obtain ⟨y,hy⟩:∃ y,ys[i]?=some y:=⟨_,aaJ hlt⟩;obtain ⟨bk,off,rfl,hcell⟩:=CG (Sat.rd hS2) hy;have hym:=acr hy;have zG:R[i]?=some y.1:=by rw [<-HR.o,ad1,hy];rfl
   have yj:=acr zG;have hdr:R.drop i=y.1::R.drop (i+1):=by rw [agf (by rw [<-og.o];exact hlt)];congr 1;rw [aaJ (by rw [<-og.o];exact hlt)]at zG;exact aiJ zG
   have gK:=uQ (show (if Seg.jV y.1.2=true then (if (Seg.lD Mi y.1).2=0 then Seg.jJ (R.drop (i+1)) (Seg.lD Mi y.1).1 else Seg.lD Mi y.1) else Seg.jJ (R.drop (i+1)) Mi)=Seg.jJ R M by rw [<-hcl,hdr];rfl);have Hb:=uQ (show Seg.jV y.1.2=((aj.scan y.1.2).2.2 != 0) from rfl);have aS:=uQ (And.intro hlt hji);have ND:=uQ JZ;have ae1:=uQ (Hlen.o _ yj);have VY:=uQ (Jj.o _ yj);have Hyd:=uQ yj;have Hym:=uQ hym;have YT:∀ j v,[Value.int .i64 y.1.1,y.2.2,.int .i64 (aj.scan y.1.2).2.1,.int .i64 (aj.scan y.1.2).2.2][j]?=some v->wr.cell? ⟨bk,off+i*4+j,none⟩=some v:=hcell;have Hmy:=uQ (show cO y=[Value.int .i64 y.1.1,y.2.2,.int .i64 (aj.scan y.1.2).2.1,.int .i64 (aj.scan y.1.2).2.2] from rfl);obtain ⟨MG,MH,hsv⟩:=(bI.o y hym).sl;clear hlt hi hji JZ hy hym zG yj hdr hcl hcell
   go_wp2_with (first
    |((with_reducible refine bC ⟨?_⟩);refine iD (b:=bk) (o:=off+i*4) (cO y) ah YT underlying189 rfl au ?_)
    |(with_reducible apply eG))
   refine ⟨eU Du hS2 rfl ?_⟩;intro b5 w3 h3;go_wp2_with (with_reducible apply bW);refine ⟨fG (cO y).toArray h3 ah ah ah bU au (by rw [Hmy.o,hsv];rfl) ?_⟩;intro w4 h4;clear h3 hS2 YT;have e3:w4.cell? ⟨b5,3,none⟩=some (.int .i64 (aj.scan y.1.2).2.2):=h4.cellP aK 3 rfl;by_cases hz:(aj.scan y.1.2).2.2=0
   ·have hb0:((aj.scan y.1.2).2.2==0)=true:=ako.2 hz;have ig:=uQ (show Seg.jJ (R.drop (i+1)) Mi=Seg.jJ R M by rw [<-gK.o,abL];rw [Hb.o,hz];decide);clear hz;go_wp2_with fail
    go_roundg (ys.length-(i+1))
    case measure=>have:=aS.o.1;omega
    case rel=>exact ⟨i+1,j,Mi,rfl,aS.o.1,by have:=aS.o.2;omega,by first|rfl|go_num,ND.o,ig.o,h4.drop⟩
   ·have hb0:((aj.scan y.1.2).2.2==0)=false:=ad3.2 hz
    have ig:=uQ (show (if (Seg.lD Mi y.1).2=0 then Seg.jJ (R.drop (i+1)) (Seg.lD Mi y.1).1 else Seg.lD Mi y.1)=Seg.jJ R M by
     have h1:=gK.o
     rwa [adU (by rw [Hb.o];exact ahV.2 hz)]at h1)
    clear hz gK;have hpo:=NG.o _ _ ND.o;have h5:Sat w0 w4 (aI m Mi::pt b5 (.cells (cO y).toArray 189 (0,0))::aC 189 4 (.slice (some ⟨bk,off,none⟩) ys.length lc) (ys.flatMap cO)::dY zs::F):=h4.sb
    have hrw:=ali (y:=y) hpo.1 (by have:=HK.o;have:=aS.o;have:=og.o;omega) hpo.2 (bI.o y Hym.o) VY.o ae1.o
     (λw' hw=>JB (Hz.o y Hym.o) (hw.sb:Sat w0 w' (dY zs::pt b5 (.cells (cO y).toArray 189 (0,0))::aC 189 4 (.slice (some ⟨bk,off,none⟩) ys.length lc) (ys.flatMap cO)::F)))
     (λf dv hf=>by
      obtain ⟨a,n,c,e1,e2,_⟩:=WI (Hz.o y Hym.o) hf (h4.sb:Sat w0 w4 (dY zs::pt b5 (.cells (cO y).toArray 189 (0,0))::aC 189 4 (.slice (some ⟨bk,off,none⟩) ys.length lc) (ys.flatMap cO)::aI m Mi::F));refine ⟨⟨a,n,c,e1,e2⟩,λw' hw=>?_⟩;obtain ⟨_,_,_,_,_,h3⟩:=WI (Hz.o y Hym.o) hf (hw.sb:Sat w0 w' (dY zs::pt b5 (.cells (cO y).toArray 189 (0,0))::aC 189 4 (.slice (some ⟨bk,off,none⟩) ys.length lc) (ys.flatMap cO)::F));exact h3)
     (Ro.os HH.o) h5
    have Ve:=uQ (λ(e:(Seg.lD Mi y.1).2=0)=>Vf.o j Mi y.1 Hyd.o ND.o e);generalize Seg.lD Mi y.1=rr at *
    obtain ⟨Mn,en⟩:=rr;dsimp only at hrw ig Ve;clear h5 hpo;go_wp2_with ((with_reducible refine bC ⟨?_⟩);refine iC h4 ah aK underlying189 rfl au ?_);refine hrw.mono ?_;rintro e w5 ⟨v,rfl,rfl,h6⟩;clear hrw h4 e3;by_cases he:en=0
    ·have hbe:(en != 0)=false:=by rw [he];rfl
     have um:=uQ (show Seg.jJ (R.drop (i+1)) Mn=Seg.jJ R M from (adU he).symm.trans ig.o);have HPm:=uQ (Ve.o he);clear he;go_wp2_with fail
     go_roundg (ys.length-(i+1))
     case measure=>have:=aS.o.1;omega
     case rel=>exact ⟨i+1,j+1,Mn,rfl,aS.o.1,by have:=aS.o.2;omega,by first|rfl|go_num,HPm.o,um.o,h6.sb⟩
    ·have hbe:(en != 0)=true:=ahV.2 he
     have um:=uQ (show Seg.cleared last R M=(Mn,en) by
      have h1:(Mn,en)=Seg.jJ R M:=(abL he).symm.trans ig.o;rw [HC.o,<-h1,abL he])
     clear he;go_wp2_with fail;go_ret;exact ⟨_,rfl,by rw [um.o];rfl,by rw [um.o];exact h6.sb⟩
  have c1:¬ (i:Int)<(ys.length:Int):=oQ;have YS:Seg.jJ R M=(Mi,0):=by rw [<-hcl,aeI (by rw [<-og.o];omega)];rfl
  have hpo:=(NG.o _ _ JZ).1;have Hpo:=uQ (show Mi.Ok (K+6*R.length) from hpo.mono (by have:=og.o;omega));have HC2:=uQ (show Seg.cleared last R M=(if (Seg.lu last R.reverse Mi).2=0 then (Seg.lu last R.reverse Mi).1.dH else Seg.lu last R.reverse Mi) by rw [HC.o,YS];rfl);have hw1:IntKind.i64.wrap ((ys.length:Int)-1)=(ys.length:Int)-1:=acO _ (by have:=og.o;have:=Hn.o;omega);clear hlt hi hji JZ hcl YS hpo HC Vb NG Vf;go_wp2_with fail
  go_loopg [9] ys.length (λg iq wr=>∃ (k:Nat) (Mk:ak),g=k/\k<=ys.length/\iq=.int .i64 ((k:Int)-1)/\Mk.Ok (K+6*R.length+(ys.length-k))/\Seg.lu last (R.take k).reverse Mk=Seg.lu last R.reverse Mi/\Sat w0 wr (aC 189 4 (.slice la ys.length lc) (ys.flatMap cO)::dY zs::aI m Mk::F))
  case atStart=>exact ⟨ys.length,Mi,rfl,ab1 _,by first|rfl|go_num,Hpo.o.mono oQ,by rw [adZ (by rw [<-og.o];exact ab1 _)],hS2⟩
  case round=>
   obtain ⟨k,Mk,hgk,hk,rfl,hok2,hcl,hS⟩:=hrel;clear hS2;rcases k with _|k
   ·subst hgk
    have xE:=uQ (show Seg.cleared last R M=Mk.dH by
     have h1:Seg.lu last R.reverse Mi=(Mk,0):=by rw [<-hcl];rfl
     rw [HC2.o,h1];rfl)
    have hsd:=MK hok2 (hS.sb:Sat w0 wr (aI m Mk::aC 189 4 (.slice la ys.length lc) (ys.flatMap cO)::dY zs::F));clear hcl hok2 hk HC2;go_wp2_with fail;refine hsd.mono ?_;rintro e w5 ⟨v,rfl,rfl,h6⟩;go_wp2_with fail;go_ret;exact ⟨_,rfl,by rw [xE.o];rfl,by rw [xE.o];exact h6.sb⟩
   subst hgk;obtain ⟨y,hy⟩:∃ y,ys[k]?=some y:=⟨_,aaJ oQ⟩;obtain ⟨bk,off,rfl,hcell⟩:=CG (Sat.rd hS) hy;have zG:R[k]?=some y.1:=by rw [<-HR.o,ad1,hy];rfl
   have yj:=acr zG;have VY:=uQ (Jj.o _ yj)
   have gK:=uQ (show (if last<(y.1.1:Int) then (if (Seg.jY Mk (Seg.name (y.1.1:Int))).2=0 then Seg.lu last (R.take k).reverse (Seg.jY Mk (Seg.name (y.1.1:Int))).1 else Seg.jY Mk (Seg.name (y.1.1:Int))) else (Mk,0))=Seg.lu last R.reverse Mi by
    rw [<-hcl,aeN,zG,ahW,List.reverse_append,List.reverse_singleton,List.singleton_append]
    rfl)
   have f0:wr.cell? ⟨bk,off+k*4,none⟩=some (.int .i64 y.1.1):=hcell 0 _ rfl;have hik:(((k+1:Nat)):Int)-1=(k:Int):=oQ;rw [hik];have c0:(0:Int)<=(k:Int):=oQ;have c2:(k:Int)<(ys.length:Int):=oQ;have hwk:IntKind.i64.wrap ((k:Int)-1)=(k:Int)-1:=acO _ (by have:=og.o;have:=Hn.o;omega);have Hk:=uQ hk;have nZ:=uQ hok2;clear hk hok2 hcl hy zG yj hcell hik;by_cases hll:last<(y.1.1:Int);rotate_left
   ·have xE:=uQ (show Seg.cleared last R M=Mk.dH by
     have h1:(Mk,(0:Int))=Seg.lu last R.reverse Mi:=(abL hll).symm.trans gK.o;rw [HC2.o,<-h1];rfl)
    have hsd:=MK nZ.o (hS.sb:Sat w0 wr (aI m Mk::aC 189 4 (.slice (some ⟨bk,off,none⟩) ys.length lc) (ys.flatMap cO)::dY zs::F));clear HC2 gK;go_wp2_with fail;refine hsd.mono ?_;rintro e w5 ⟨v,rfl,rfl,h6⟩;go_wp2_with fail;go_ret;exact ⟨_,rfl,by rw [xE.o];rfl,by rw [xE.o];exact h6.sb⟩
   have NQ:=uQ ((adU hll).symm.trans gK.o);have hrm:=λ(w':World) (hw:Sat w0 w' (aC 189 4 (.slice (some ⟨bk,off,none⟩) ys.length lc) (ys.flatMap cO)::dY zs::aI m Mk::F))=>aaw nZ.o (by have:=HK.o;have:=og.o;omega) (Seg.name (y.1.1:Int)) (hw.sb:Sat w0 w' (aI m Mk::aC 189 4 (.slice (some ⟨bk,off,none⟩) ys.length lc) (ys.flatMap cO)::dY zs::F));have QB:=alv nZ.o (Seg.name (y.1.1:Int));have hsn:=λ(w':World) (hw:Sat w0 w' (aC 189 4 (.slice (some ⟨bk,off,none⟩) ys.length lc) (ys.flatMap cO)::dY zs::aI m Mk::F))=>EI (y.1.1:Int) hw;generalize Seg.name (y.1.1:Int)=nm at *
   generalize Seg.jY Mk nm=rr at *
   obtain ⟨Mn,en⟩:=rr;dsimp only at hrm NQ QB;have aeF:=uQ QB;have xM:=uQ hrm;have qj:=uQ hsn;clear QB hrm hsn gK;go_wp2_with fail;refine (qj.o _ hS).mono ?_;rintro e w4 ⟨v,rfl,rfl,h4⟩;clear hS f0;go_wp2_with fail;refine (xM.o _ h4).mono ?_;rintro e w5 ⟨v,rfl,rfl,h6⟩;clear h4;by_cases he:en=0
   ·have hbe:(en != 0)=false:=by rw [he];rfl
    have um:=uQ (show Seg.lu last (R.take k).reverse Mn=Seg.lu last R.reverse Mi from (adU he).symm.trans NQ.o);clear he;go_wp2_with fail
    go_roundg k
    case measure=>omega
    case rel=>exact ⟨k,Mn,rfl,by have:=Hk.o;omega,by first|rfl|go_num,aeF.o.mono zJ0,um.o,h6.sb⟩
   ·have hbe:(en != 0)=true:=ahV.2 he
    have um:=uQ (show Seg.cleared last R M=(Mn,en) by
     have h1:(Mn,en)=Seg.lu last R.reverse Mi:=(abL he).symm.trans NQ.o;rw [HC2.o,<-h1,abL he])
    clear he;go_wp2_with fail;go_ret;exact ⟨_,rfl,by rw [um.o];rfl,by rw [um.o];exact h6.sb⟩
theorem agd (h1:128<=limit) (h2:limit<=1048576) (hM:M.Ok K) (ha:Seg.alive M=0) (hs:(Seg.fresh M limit).aH=R.map λd=>(d.1:Int)) (hb:∀ d∈R,(Seg.fresh M limit).bytes M (d.1:Int)=(d.2,0)) (hn:R.length<=10000)
  (he:∀ d,R.getLast?=some d->Rep.jK (Seg.gI d.2)=true) (hH:Ro w0 F Half) (h:Sat w0 w (aI m M::F)) :
  Calls prog 44 #[ptr m,.int .i64 limit] w (aN λv w'=>v=errno 0/\Sat w0 w' (aI m M::F)):=by
 have HL:=uQ (Seg.xZ hM limit h1 h2);have hop:=Lh hM limit h ha h1 h2;have DR:=uQ (λ(p:Nat) (w':World) (hw:Sat w0 w' (aV p m (Seg.fresh M limit)::aI m M::F))=>SA (Seg.xZ hM limit h1 h2) hM hs hb (adT hn aG) hH hw)
 have uh:=uQ (show ∀ d∈R,d.2.length<=16777216 from λd hd=>by
  have h1:=Seg.DZ (L:=Seg.fresh M limit) hM (d.1:Int);rw [hb d hd]at h1;exact h1)
 have Hn:=uQ hn;have He:=uQ he;clear h1 h2 hM ha hs hb hn he hH h;generalize Seg.fresh M limit=L at *
 go_enter func44,ntmps44;go_wp2_with fail;refine hop.mono ?_;rintro e w1 ⟨v,rfl,p,rfl,hS⟩;clear hop;go_wp2_with fail;refine (DR.o p _ hS).mono ?_;rintro e w2 ⟨v,rfl,lv,ys,rfl,hys,hok,⟨la,lc,rfl⟩,zs,hz,h2⟩;clear hS;cases hg:ys.getLast? with
 |none=>
  obtain rfl:ys=[]:=aox.1 hg;have c1:(((0:Nat):Int)==0)=true:=rfl;clear hg;go_wp2_with fail;go_ret;exact ⟨_,rfl,rfl,h2.sb⟩
 |some y=>
  have hpos:0<ys.length:=by
   cases ys with
   |nil=>cases hg
   |cons x l=>exact Nat.succ_pos _
  have hyl:ys.length<=10000:=by have:=aeO List.length hys;rw [abl]at this;have:=Hn.o;omega
  have hym:=apF hg;have hRl:R.getLast?=some y.1:=by rw [<-hys,apw,hg];rfl
  have uK:=He.o _ hRl;have hi:ys[ys.length-1]?=some y:=by rw [<-aoy];exact hg
  obtain ⟨bk,off,rfl,hcell⟩:=CG (Sat.rd h2) hi;have hcl:∀ j v,[Value.int .i64 y.1.1,y.2.2,.int .i64 (aj.scan y.1.2).2.1,.int .i64 (aj.scan y.1.2).2.2][j]?=some v->w2.cell? ⟨bk,off+(ys.length-1)*4+j,none⟩=some v:=hcell;have c0:((ys.length:Int)==0)=false:=by rw [ad3];omega
  have c1:(((ys.length-1:Nat)):Int)<(ys.length:Int):=oQ;have c2:(0:Int)<=(((ys.length-1:Nat)):Int):=oQ;have hwl:IntKind.i64.wrap ((ys.length:Int)-1)=((ys.length-1:Nat):Int):=by rw [acO _ oQ];omega
  have hen:=Sv (hok y hym) (P9 (hok y hym) (uh.o _ (apF hRl))) (λw' hw=>JB (hz y hym) (hw.sb:Sat w0 w' (dY zs::aC 189 4 (.slice (some ⟨bk,off,none⟩) ys.length lc) (ys.flatMap cO)::aV p m L::aI m M::F))) (h2:Sat w0 w2 (aC 189 4 (.slice (some ⟨bk,off,none⟩) ys.length lc) (ys.flatMap cO)::dY zs::aV p m L::aI m M::F));rw [uK]at hen;clear hpos hyl hym hRl uK hi hcell hys hok hz hg;generalize ys.length-1=kk at *
  go_wp2_with (first
   |((with_reducible apply EM);refine ⟨?_⟩;refine EN (by first|rfl|kernel_rfl) ?_)
   |((with_reducible refine bC ⟨?_⟩);refine iD (b:=bk) (o:=off+kk*4) (cO y) ah hcl underlying189 rfl au ?_))
  refine hen.mono ?_;rintro e w3 ⟨v,rfl,rfl,h3⟩;go_wp2_with fail;go_ret;exact ⟨_,rfl,rfl,h3.sb⟩
section
variable {ps pn pi:Nat}{uv tv:Value}{xs:List Value}
theorem agc (h1:∀ u∈xs,u.oneCell'=true) (hl:xs.length<=2147483648) (h:Sat w0 w (aC 205 3 uv xs::F)) :
  Calls prog 112 #[uv] w (aN λv w'=>Sat w0 w' (aC 205 3 v xs::aC 205 3 uv xs::F)):=by
 have H1:=uQ h1;have Hl:=uQ hl;obtain ⟨a,n,c,rfl,hn,hcs⟩:=Sat.rd h;clear h1 hl;cases a with
 |none=>
  have hx:xs=[]:=by
   cases xs with
   |nil=>rfl
   |cons x xs=>obtain ⟨_,e,_⟩:=hcs 0 x rfl;cases e
  subst hx;obtain rfl:n=0:=by simp only [ae0]at hn;omega
  have he:∀ w,(binOp .eql 106 (.slice none 0 c) (.slice none 0 0)).run prog w=.ok (.bool true) w:=λw=>by first|kernel_rfl|rfl
  go_enter func112,ntmps112;go_wp2_with fail;go_ret;exact ⟨_,rfl,Sat.dO.2 h⟩
 |some ad=>
  clear hn hcs;have he:∀ w,(binOp .eql 106 (.slice (some ad) n c) (.slice none 0 0)).run prog w=.ok (.bool false) w:=λw=>by first|kernel_rfl|rfl
  go_enter func112,ntmps112
  go_wp2_with (first
   |((with_reducible refine WE ⟨?_⟩);refine adC (e:=205) (sz:=3) (dF:=24) au h ?_;intro bN wN hN)
   |(with_reducible apply fZ))
  refine ⟨adx 205 3 24 au hN ah ah aK (Sat.rd hN.drop) H1.o (by have:=Hl.o;simp only [ae0];omega) aG ?_⟩;intro v' w' hS;rw [aeV]at hS;go_wp2_with fail;go_ret;exact ⟨_,rfl,hS⟩
theorem anE (us:List Rep.Use):∀ u∈us.flatMap bJ,u.oneCell'=true:=λu hu=>by
 obtain ⟨x,_,hx⟩:=ao6.1 hu;unfold bJ at hx;simp only [ad9,aiR,apW]at hx;rcases hx with rfl|rfl|rfl <;> rfl
theorem alJ (hB:B<=14000000) (hu:us.length<=65536) (h:Sat w0 w (iT r m seg p ps pn d::bZ ps N pi uv tv::bf pi mi B::aC 205 3 uv (us.flatMap bJ)::F)) :
  Calls prog 46 #[ptr r] w (aN λv w'=>∃ (q qi:Nat) (vv:Value),v=ptr q/\Sat w0 w' (bZ q N qi vv (.slice none 0 0)::bf qi mi B::aC 205 3 vv (us.flatMap bJ)::iT r m seg p ps pn d::bZ ps N pi uv tv::bf pi mi B::aC 205 3 uv (us.flatMap bJ)::F)):=by
 have rF:=uQ (show (us.flatMap bJ).length<=2147483648 by rw [iK (k:=3) (λu _=>tN u)];omega);have HB:=uQ hB;have hok:=LM h;clear hu hB;go_enter func46,ntmps46;go_wp2_with fail;refine hok.mono ?_;rintro ee w1 ⟨v,rfl,rfl,rfl⟩;clear hok;go_wp2_with fail;have h1:=h.drew;clear h;refine eF [23,24,25] (λw'=>w'.cell? ⟨r,3,none⟩=some (.pointer (some ⟨ps,0,none⟩))/\w'.cell? ⟨ps,0,none⟩=some (.int .i64 N)/\w'.cell? ⟨ps,1,none⟩=some (.pointer (some ⟨pi,0,none⟩))/\w'.cell? ⟨ps,2,none⟩=some uv) au ?_;have hG:World.cell? _ ⟨r,3,none⟩=some (.pointer (some ⟨ps,0,none⟩))/\World.cell? _ ⟨ps,0,none⟩=some (.int .i64 N)/\World.cell? _ ⟨ps,1,none⟩=some (.pointer (some ⟨pi,0,none⟩))/\World.cell? _ ⟨ps,2,none⟩=some uv:=⟨h1.cellP aK 3 rfl,h1.cellP aT 0 rfl,h1.cellP aT 1 rfl,h1.cellP aT 2 rfl⟩;refine rP 0 ?_ (y:=bD)
 refine rP 1 ?_ (y:=iG);refine rP 2 ?_ (y:=dh);refine rt 3 (h:=?_);refine rP 4 ?_ (y:=iG);refine rP 5 ?_ (y:=dh);refine rt 6 (h:=?_);refine rP 7 ?_ (y:=bD);refine rP 8 ?_ (y:=iG);refine rP 9 ?_ (y:=dh);refine rt 10 (h:=?_);refine rP 11 ?_ (y:=iG);refine rP 12 ?_ (y:=dh);refine rt 13 (h:=?_);refine rP 15 ?_ (y:=bD);refine rP 16 ?_ (y:=iG);refine rP 17 ?_ (y:=dh);refine rt 18 (h:=?_);refine rP 19 ?_ (y:=iG);refine rP 20 ?_ (y:=dh);refine rt 21 (h:=?_);clear hG;refine cZ 14 ay au (λK hK=>?_)
 (refine uJ au ay ?_)
 refine (Xk HB.o (h1.sb:Sat w0 _ (bf pi mi B::iT r m seg p ps pn d::bZ ps N pi uv tv::aC 205 3 uv (us.flatMap bJ)::F))).mono ?_;rintro ee w2 ⟨v,rfl,qi,rfl,h2⟩;refine hK _ _ (.inr (.inl ⟨h2.cellP fE 3 rfl,h2.cellP iw 0 rfl,h2.cellP iw 1 rfl,h2.cellP iw 2 rfl⟩)) ?_;clear hK h1;refine cZ 22 ay au (λK hK=>?_)
 (refine uJ au ay ?_)
 refine (agc (anE us) rF.o (h2.sb:Sat w0 _ (aC 205 3 uv (us.flatMap bJ)::iT r m seg p ps pn d::bZ ps N pi uv tv::bf qi mi B::bf pi mi B::F))).mono ?_;rintro ee w3 ⟨vv,rfl,h3⟩;refine hK _ _ (.inr (.inl ⟨h3.cellP fE 3 rfl,h3.cellP iw 0 rfl,h3.cellP iw 1 rfl,h3.cellP iw 2 rfl⟩)) ?_;clear hK h2;obtain ⟨va,vn,vc,rfl,_,_⟩:=Sat.rd h3;refine rp 23 (hy:=yE0) (h:=?_);refine cZ 24 ay au (λK hK=>?_);refine PD (cs:=#[.int .i64 N,ptr qi,.slice va vn vc,.slice none 0 0]) h3 ay ay ?_;intro q w4 h4;refine hK _ _ (.inl rfl) ?_;clear hK h3;refine rP 25 ?_ (y:=jU);refine dX au ?_;go_wp2_with fail;go_ret;exact ⟨_,rfl,q,qi,_,rfl,h4.sb⟩
end
theorem am4 {k:Nat}{caps:Array Value}{p:ByteArray->Bool} (hk:k=110/\caps=#[]\/k=119/\∃ z,caps=#[z]) (hcl:∀ (s:ByteArray) (w':World) (A B:aF),s.size<=4000000000->Sat w0 w' (A::B::F)->Calls prog k (#[.string s]++caps) w' (aN λv w''=>v=.bool (p s)/\Sat w0 w'' (A::B::F)))
  (hM:M.Ok K) (hK:K+500<=1099511627776) (hno:∀ f∈M.list,f.size<=4000000000) (h:Sat w0 w (aI m M::F)) :
  Calls prog 109 #[ptr m,.func (.func k) #[] caps] w (aN λv w'=>v=errno (aA.sweep p M.list M).2/\Sat w0 w' (aI m (aA.sweep p M.list M).1::F)):=by
 have hls:=KF hM h;obtain ⟨rfl,rfl⟩|⟨rfl,z,rfl⟩:=hk
 all_goals
  have Hlen:=uQ (Q7 hM);have Hn:=uQ hno;have HK:=uQ hK;have HM:=uQ hM;have gK:=uQ hcl;clear hno hM hK hcl;generalize M.list=l at *
  obtain ⟨R,hR⟩:∃ R,aA.sweep p l M=R:=⟨_,rfl⟩;have HR:=uQ hR;rw [hR];clear hR;go_enter func109,ntmps109;go_wp2_with fail;refine hls.mono ?_;rintro e w1 ⟨v,rfl,hS,_⟩;clear hls h;obtain ⟨a,c,rfl⟩:=RJ (Sat.rd hS);go_wp2_with fail
  go_loopg [11] l.length (λg iq wr=>∃ (i:Nat) (M2:ak),g=l.length-i/\i<=l.length/\iq=.int .i64 i/\(aA.sweep p (l.drop i) M2=R/\M2.Ok (K+i))/\Sat w0 wr (aC 9 1 (.slice a l.length c) (strs l)::aI m M2::F))
  case atStart=>exact ⟨0,M,rfl,ad4 _,rfl,⟨by rw [apP];exact HR.o,HM.o⟩,hS⟩
  case round=>
   obtain ⟨i,M2,rfl,hi,rfl,⟨hsw,hok⟩,hS2⟩:=hrel;clear hS;by_cases hlt:i<l.length
   ·have c1:(i:Int)<(l.length:Int):=by omega
    have hwi:IntKind.i64.wrap ((i:Int)+1)=(i:Int)+1:=acO _ yS0;obtain ⟨s,hs⟩:∃ s,l[i]?=some s:=⟨_,aaJ hlt⟩;obtain ⟨bk,off,rfl,hc⟩:=H9 (Sat.rd hS2) hs;have hsz:=Hn.o s (acr hs);have hd:l.drop i=s::l.drop (i+1):=by
     rw [agf hlt];rw [aaJ hlt]at hs;cases hs;rfl
    rw [hd]at hsw;have aS:=uQ hlt;have bI:=uQ hok;have hcl:=gK.o s wr _ _ hsz hS2;cases hso:p s with
    |false=>
     have qG:=uQ (show aA.sweep p (l.drop (i+1)) M2=R by unfold aA.sweep at hsw;rwa [abL (by rw [hso];decide)]at hsw);rw [hso]at hcl;clear hs hlt hi hso hsw hd hok;go_wp2_with fail;refine hcl.mono ?_;rintro e w2 ⟨v,rfl,rfl,hS3⟩;clear hS2 hc hcl;go_wp2_with fail
     go_roundg (l.length-(i+1))
     case measure=>have:=aS.o;omega
     case rel=>exact ⟨i+1,M2,rfl,ad8 aS.o,by first|rfl|go_num,⟨qG.o,bI.o.mono oQ⟩,hS3⟩
    |true=>
     have qG:=uQ (show (if (M2.remove s).2=0 then aA.sweep p (l.drop (i+1)) (M2.remove s).1 else M2.remove s)=R by unfold aA.sweep at hsw;rwa [adU hso]at hsw);rw [hso]at hcl;have xM:=uQ (λ(w':World) (hw:Sat w0 w' (aI m M2::aC 9 1 (.slice (some ⟨bk,off,none⟩) l.length c) (strs l)::F))=>yI hok (by have:=HK.o;have:=Hlen.o;omega) hw s);have nZ:=uQ (hok.remove s);generalize M2.remove s=q at *
     obtain ⟨M3,q3⟩:=q;dsimp only at xM nZ qG;clear hlt hi hso hsw hd hok;go_wp2_with fail;refine hcl.mono ?_;rintro e w2 ⟨v,rfl,rfl,hS3⟩;clear hS2 hcl;obtain ⟨DX,off',Gv,hc'⟩:=H9 (Sat.rd hS3) hs;cases Gv;by_cases c3:q3=0
     ·have hb1:(q3 != 0)=false:=by rw [c3];rfl
      have ig:=uQ (show aA.sweep p (l.drop (i+1)) M3=R from (adU c3).symm.trans qG.o);clear c3 hc hs qG;go_wp2_with fail;refine (xM.o _ (hS3.sb)).mono ?_;rintro e w3 ⟨v,rfl,rfl,hS5⟩;clear hS3 hc';go_wp2_with fail
      go_roundg (l.length-(i+1))
      case measure=>have:=aS.o;omega
      case rel=>exact ⟨i+1,M3,rfl,ad8 aS.o,by first|rfl|go_num,⟨ig.o,nZ.o⟩,hS5.sb⟩
     ·have hb1:(q3 != 0)=true:=ahV.2 c3;have ig:=uQ (show (M3,q3)=R from (abL c3).symm.trans qG.o);clear c3 hc hs qG;go_wp2_with fail;refine (xM.o _ (hS3.sb)).mono ?_;rintro e w3 ⟨v,rfl,rfl,hS5⟩;clear hS3 hc';go_wp2_with fail;go_ret;exact ⟨_,rfl,by rw [<-ig.o];rfl,by rw [<-ig.o];exact hS5.sb⟩
   ·have c1:¬ (i:Int)<(l.length:Int):=by omega
    obtain rfl:i=l.length:=by omega
    have ig:=uQ (show (M2,0)=R by rw [ao4]at hsw;exact hsw);clear hlt hi hsw hok;go_wp2_with fail;go_ret;exact ⟨_,rfl,by rw [<-ig.o];rfl,by rw [<-ig.o];exact hS2.drop⟩
theorem ahL (f:ByteArray) (hf:f.size<=4000000000) (h:Sat w0 w F):Calls prog 110 #[.string f] w (aN λv w'=>v=.bool (aA.l7 f)/\Sat w0 w' F):=by
 have Ho:=uQ (show aA.l7 f=((aA.number f).2 || f.toList==[116,109,112]) by unfold aA.l7;rw [akk];rfl);have hn:=QA f hf h;generalize aA.number f=q at *
 obtain ⟨x,t⟩:=q;dsimp only at hn;clear h;go_enter func110,ntmps110;go_wp2_with fail;refine hn.mono ?_;rintro ee w1 ⟨v,rfl,rfl,h1⟩;clear hn;cases t with
 |false=>
  go_wp2_with fail;go_ret;exact ⟨_,rfl,by rw [Ho.o];rfl,h1⟩
 |true=>
  go_wp2_with fail;go_ret;exact ⟨_,rfl,by rw [Ho.o];rfl,h1⟩
theorem ahM (hM:Seg.Calm K r M) (hK:K+500<=1099511627776) (hno:∀ f∈M.list,f.size<=4000000000) (h:Sat w0 w (aI m M::F)):Calls prog 45 #[ptr m] w (aN λv w'=>v=errno (aA.sweep aA.l7 M.list M).2/\Sat w0 w' (aI m (aA.sweep aA.l7 M.list M).1::F)):=by
 have hsi:=Dc hM.ok h ByteArray.empty;rw [Iy hM.ok hM.quiet.off]at hsi;have hsw:=am4 (k:=110) (caps:=#[]) (p:=aA.l7) (.inl ⟨rfl,rfl⟩) (λs w' A B hs hw=>ahL s hs hw) hM.ok hK hno h;generalize aA.sweep aA.l7 M.list M=R at *
 clear hM hK hno;go_enter func45,ntmps45;go_wp2_with fail;refine hsi.mono ?_;rintro e w1 ⟨v,rfl,rfl,rfl⟩;clear hsi;go_wp2_with fail;refine hsw.mono ?_;rintro e w2 ⟨v,rfl,rfl,hS2⟩;go_wp2_with fail;go_ret;exact ⟨_,rfl,rfl,hS2⟩
end Go.Proofs.Y
namespace Go.Seg
open Go.ak
theorem Calm.fill {K r:Nat}{M:ak} (h:Calm K r M) (s:ByteArray) (b:aj.Bs):Calm (K+3) r (aA.fill M s b).1:=by
 unfold aA.fill;split
 ·split
  ·exact ((h.append _ _).sync _).rename _ _
  ·exact ((h.append _ _).sync _).mono oQ
 ·split
  ·split
   ·exact ((h.append _ _).remove _).mono oQ
   ·exact ((h.append _ _).remove _).mono oQ
  ·exact (h.append _ _).mono oQ
theorem Calm.write {K r:Nat}{M:ak} (h:Calm K r M) (s:ByteArray) (b:aj.Bs):Calm (K+5) r (aA.write M s b).1:=by
 have hr:Calm (K+1) r (aA.oK M).1:=by
  unfold aA.oK;split
  ·exact h.remove _
  ·exact h.mono oQ
 unfold aA.write;split
 ·split
  ·exact (hr.create _).fill _ _
  ·exact (hr.create _).mono oQ
 ·exact hr.mono oQ
theorem Calm.lD {K r:Nat}{M:ak} (h:Calm K r M) (d:Nat×aj.Bs):Calm (K+6) r (Seg.lD M d).1:=by
 unfold Seg.lD;split
 ·exact (h.remove _).mono oQ
 ·exact (h.write _ _).mono oQ
theorem Calm.tmp {K r:Nat}{M:ak} (h:Calm K r M) (s:ByteArray):(M.size s).2=0\/(M.size s).2=9:=by
 cases hi:bH M.now s with
 |none=>right;rw [aA.Uc h.quiet hi]
 |some i=>left;rw [aA.Ud h.quiet hi]
theorem Calm.alive {K r:Nat}{M:ak} (h:Calm K r M):Seg.alive M=0:=by
 unfold Seg.alive;rw [Go.Proofs.Y.Iy h.ok h.quiet.off]
 rfl
end Go.Seg
namespace Go.Proofs.Y
open Go.ak
section
variable {K1 E1:Nat}{pl:List (aj.Bs×Seg.aZ)}
theorem abz (hR:Seg.jy K r0 E B n L M D) (hn:n<=1000) (hK:K<=1048576) (hst:Seg.sN D N us pl) (hh:Seg.NF M\/D≠[]/\Seg.HF M N pl us) (h1:128<=limit) (h2:limit<=1048576) (hH:Ro w0 F Half) (h:Sat w0 w (aI m M::F)) :
  Calls prog 10 #[ptr m,.int .i64 limit] w (aN λv w'=>∃ (r p ps pi pn:Nat) (uv:Value) (x:List (aj.Bs×Rep.dU)×Nat),v=.tuple #[ptr r,.agg (dW Rep.dI.zero),errno 0]/\(Tab.Lists (Rep.ledger (Seg.iH D)) x.1/\(∀ q∈x.1,q.1.length=32)/\x.2<=n/\x.1.length<=n) /\
   Sat w0 w' (iT r m limit p ps pn false::bZ ps (Seg.dw D) pi uv (.slice none 0 0)::bf pn (Tab.mapOf (Rep.puts x.1)) x.2::bf pi (Tab.mapOf (Rep.puts x.1)) x.2::aC 205 3 uv (((Seg.lQ D).map (Rep.upd x.1)).flatMap bJ)::aV p m (Seg.fresh M limit)::aI m M::F)):=by
 have hc:=hR.hd.keeps.calm
 exact alA (λx:List (aj.Bs×Rep.dU)×Nat=>Tab.mapOf (Rep.puts x.1)) (λx=>x.2) (λx=>(Seg.lQ D).map (Rep.upd x.1)) (λx=>Tab.Lists (Rep.ledger (Seg.iH D)) x.1/\(∀ q∈x.1,q.1.length=32)/\x.2<=n/\x.1.length<=n) h1 h2 hc.ok hK
  hc.alive (λx hx=>adT hx.2.2.1 oQ)
  (λp b5 w' hw=>(ahh (hR.fresh limit h1 h2) hn hst hh (Ro.os hH) hw).mono λe w'' hv=>hv) h
theorem aa9 (hP:Seg.Pre K K1 E1 B1 M R D) (h1:128<=limit) (h2:limit<=1048576):Seg.mQ (aA.newest M) R=[]->0<=Seg.jA (-1) R->I9 M (Seg.fresh M limit) R:=λa b=>by
 rcases hP.hint a b with h|h|⟨K',E',B',us,pl,⟨L,hr⟩,x1,x2,x3,x4⟩
 ·exact .inl h
 ·exact .inr (.inl h)
 ·exact .inr (.inr ⟨K',E',B',us,pl,D,hr.fresh limit h1 h2,x1,x2,x3,x4⟩)
theorem aaq {r:Nat} (hc:Seg.Calm K r M) (hsm:∀ p∈M.now,p.1.size<=24) (hs:(Seg.fresh M limit).aH=R.map λd=>(d.1:Int)) (hb:∀ d∈R,(Seg.fresh M limit).bytes M (d.1:Int)=(d.2,0)) (hn:R.length<=1000) (hlm:∀ d∈R,d.1<1048576)
  (Y6:Seg.mQ (aA.newest M) R=[]->0<=Seg.jA (-1) R->I9 M (Seg.fresh M limit) R) (h1:128<=limit) (h2:limit<=1048576) (hH:Ro w0 F Half) (h:Sat w0 w (aI m M::F)) :
  Calls prog 9 #[ptr m,.int .i64 limit] w (aN λv w'=>Fa w0 (Seg.mQ (aA.newest M) R) (aI m M::F) v w'):=by
 have hM:=hc.ok;have hop:=Lh hM limit h hc.alive h1 h2;have DR:=uQ (λ(p:Nat) (w':World) (hw:Sat w0 w' (aV p m (Seg.fresh M limit)::aI m M::F))=>SA (Seg.xZ hM limit h1 h2) hM hs hb (adT hn aG) hH hw)
 have kE:=uQ (λ(p:Nat) (lc:Nat) (la:Option Addr) (ys:List Mp) (zs:List Sg) (hys:ys.map (·.1)=R) (hok:∀ y∈ys,qI y) (hz:∀ y∈ys,vV y∈zs) (w':World) (hw:Sat w0 w' (aC 189 4 (.slice la ys.length lc) (ys.flatMap cO)::dY zs::aI m M::aV p m (Seg.fresh M limit)::F))=>
  X3 (Seg.xZ hM limit h1 h2) hM (λf hf=>by
   rw [hc.quiet.list]at hf;obtain ⟨x,hx,rfl⟩:=adu.1 hf;exact adT (hsm x hx) aG) (λd hd=>by
    have h1:=Seg.DZ (L:=Seg.fresh M limit) hM (d.1:Int);rw [hb d hd]at h1;exact h1) (adT hn aG) hlm hys (Iy hM hc.quiet.off) Y6 hH hok hz hw)
 clear hc hsm hn hlm Y6 hs hb hM h h1 h2;generalize Seg.fresh M limit=L at *
 generalize Seg.mQ (aA.newest M) R=fl at *
 go_enter func9,ntmps9;go_wp2_with fail;refine hop.mono ?_;rintro e w1 ⟨v,rfl,p,rfl,hS⟩;clear hop;go_wp2_with fail;refine (DR.o p _ hS).mono ?_;rintro e w2 ⟨v,rfl,lv,ys,rfl,hys,hok,⟨la,lc,rfl⟩,zs,hz,h2⟩;clear hS;go_wp2_with fail;refine (kE.o p lc la ys zs hys hok hz _ (h2.sb)).mono ?_;rintro e w3 ⟨v,rfl,fv,rfl,⟨fa,fc,rfl⟩,h3⟩;go_wp2_with fail
 go_ret2
 exact ⟨_,rfl,_,rfl,⟨fa,fc,rfl⟩,h3.sb⟩
theorem ajt (hP:Seg.Pre K K1 E1 B1 M R D) (h1:128<=limit) (h2:limit<=1048576) (hH:Ro w0 F Half) (h:Sat w0 w (aI m M::F)) :
  Calls prog 9 #[ptr m,.int .i64 limit] w (aN λv w'=>Fa w0 (Seg.mQ (aA.newest M) R) (aI m M::F) v w'):=by
 obtain ⟨hs,hb⟩:=hP.aH limit h1 h2;exact aaq hP.calm hP.small hs hb hP.num hP.lim (aa9 hP h1 h2) h1 h2 hH h
def ae8 (w0:World) (m:Nat) (fl:List Rep.dI) (K E B:Nat) (D:List (Nat×List aj.aJ)) (F:List aF) (v:Value) (w:World):Prop:=
 ∃ M':ak,Seg.oh K E B M' D/\Fa w0 fl (aI m M'::F) v w
theorem aax (hP:Seg.Pre K K1 E1 B1 M R D) (hK:K<=1000000) (hK1:K1<=1000000) (hE:E1<=440) (hB:B1<=200000) (h1:128<=limit) (h2:limit<=1048576) (hH:Ro w0 F Half) (h:Sat w0 w (aI m M::F)) :
  Calls prog 8 #[ptr m,.int .i64 limit] w (aN λv w'=>ae8 w0 m (Seg.mQ (aA.newest M) R) (K1+1100) (E1+2) (B1+60000) D F v w'):=by
 obtain ⟨hs,hb⟩:=hP.aH limit h1 h2;have hM:=hP.calm.ok;have hop:=Lh hM limit h hP.calm.alive h1 h2;have hnm:∀ f∈M.list,f.size<=4000000000:=λf hf=>by
  rw [hP.calm.quiet.list]at hf;obtain ⟨x,hx,rfl⟩:=adu.1 hf;exact adT (hP.small x hx) aG
 have hlen:∀ d∈R,d.2.length<=16777216:=λd hd=>by
  have h1:=Seg.DZ (L:=Seg.fresh M limit) hM (d.1:Int);rw [hb d hd]at h1;exact h1
 have DR:=uQ (λ(p:Nat) (w':World) (hw:Sat w0 w' (aV p m (Seg.fresh M limit)::aI m M::F))=>SA (Seg.xZ hM limit h1 h2) hM hs hb (adT hP.num aG) hH hw)
 have kE:=uQ (λ(p:Nat) (lc:Nat) (la:Option Addr) (ys:List Mp) (zs:List Sg) (hys:ys.map (·.1)=R) (hok:∀ y∈ys,qI y) (hz:∀ y∈ys,vV y∈zs) (w':World) (hw:Sat w0 w' (aC 189 4 (.slice la ys.length lc) (ys.flatMap cO)::dY zs::aI m M::aV p m (Seg.fresh M limit)::F))=>
  X3 (Seg.xZ hM limit h1 h2) hM hnm hlen (adT hP.num aG) hP.lim hys (Iy hM hP.calm.quiet.off) (aa9 hP h1 h2) hH hok hz hw)
 have gK:=uQ (λ(G:List aF) (hG:Ro w0 G Half) (lc:Nat) (la:Option Addr) (ys:List Mp) (zs:List Sg) (hys:ys.map (·.1)=R) (hok:∀ y∈ys,qI y) (hz:∀ y∈ys,vV y∈zs) (w':World) (hw:Sat w0 w' (aC 189 4 (.slice la ys.length lc) (ys.flatMap cO)::dY zs::aI m M::G))=>
  aga hM (by have:=hP.num;omega) hnm hlen (adT hP.num aG) hP.lim hys (λi M'=>Seg.Calm (K+6*i) 1048576 M') hP.calm (λi M' h=>⟨h.ok,h.tmp _⟩) (λi M' d hd h _=>(h.lD d).mono oQ) hG hok hz hw)
 obtain ⟨c1,⟨L2,c2⟩,c3,c4⟩:=hP.next;rw [hP.known,hP.clr]at gK;obtain ⟨L1,hr1⟩:=hP.rp;have hf1:=hr1.fresh limit h1 h2
 have Vj:=uQ (λ(G:List aF) (hG:Ro w0 G Half) (w':World) (hw:Sat w0 w' (aI m (Seg.cleared (Seg.dw D) R M).1::G))=>agd (R:=Seg.mF D) h1 h2 hr1.hd.keeps.calm.ok hr1.hd.keeps.calm.alive
  (by rw [hf1.hd.aH];unfold Seg.mF;rw [ahU];rfl) (λy hy=>by
   obtain ⟨d,hd,rfl⟩:=adu.1 hy;exact hf1.hd.bytes hd) (by unfold Seg.mF;rw [abl];exact adT hr1.hd.count aG) (λy hy=>by
   unfold Seg.mF at hy;rw [apw]at hy;cases hg:D.getLast? with
   |none=>rw [hg]at hy;cases hy
   |some d=>
    rw [hg]at hy;cases hy;show Rep.jK (Seg.gI (Seg.mag++aj.encs d.2))=true;rw [(Seg.JA ((hr1.hd.good d (apF hg)).1)).2];exact hP.ends d hg) hG hw)
 have NR:=uQ (λ(G:List aF) (w':World) (hw:Sat w0 w' (aI m (Seg.cleared (Seg.dw D) R M).1::G))=>ahM hr1.hd.keeps.calm oQ (λf hf=>by
  rw [hr1.hd.keeps.calm.quiet.list]at hf;obtain ⟨x,hx,rfl⟩:=adu.1 hf;exact adT (hr1.small x hx) aG) hw)
 rw [c1]at NR;have NU:=uQ hP.ends;clear hP hs hb hM h hnm hlen hr1 hf1 c1;generalize (aA.sweep aA.l7 (Seg.cleared (Seg.dw D) R M).1.list (Seg.cleared (Seg.dw D) R M).1).1=M2 at *
 generalize (Seg.cleared (Seg.dw D) R M).1=M1 at *
 obtain ⟨KA,_,_,Zl⟩:=c2.hd.stp NU.o;have VK:=uQ (λ(G:List aF) (hG:Ro w0 G Half) (w':World) (hw:Sat w0 w' (aI m M2::G))=>abz c2 aG oQ Zl (.inl c3) h1 h2 hG hw);have HC2:=uQ c2;have xE:=uQ c3;have Ny:=uQ c4;have HH:=uQ hH;have HK1:=uQ hK1;have HE:=uQ hE;have HB:=uQ hB;have nH:=uQ (And.intro h1 h2);clear Zl c2 c3 c4 hH hK hK1 hE hB h1 h2;generalize Seg.mQ (aA.newest M) R=fl at *
 generalize Seg.fresh M limit=L at *
 go_enter func8,ntmps8;go_wp2_with fail;refine hop.mono ?_;rintro e w1 ⟨v,rfl,p,rfl,hS⟩;clear hop;go_wp2_with fail;refine (DR.o p _ hS).mono ?_;rintro e w2 ⟨v,rfl,lv,ys,rfl,hys,hok,⟨la,lc,rfl⟩,zs,hz,h2⟩;clear hS DR;have xO:=uQ (And.intro hys (And.intro hok hz));clear hys hok hz;go_wp2_with fail;refine (kE.o p lc la ys zs xO.o.1 xO.o.2.1 xO.o.2.2 _ (h2.sb)).mono ?_;rintro e w3 ⟨v,rfl,fv,rfl,⟨fa,fc,rfl⟩,h3⟩;clear h2 kE;go_wp2_with fail;refine (gK.o (aC 36 36 (.slice fa fl.length fc) (fl.flatMap nO)::aV p m L::F) (Ro.os HH.o) lc la ys zs xO.o.1 xO.o.2.1 xO.o.2.2 _ (h3.sb)).mono ?_;rintro e w4 ⟨v,rfl,rfl,h4⟩;clear h3 gK xO;go_wp2_with fail;refine (Vj.o _ (Ro.os HH.o) _ h4).mono ?_;rintro e w5 ⟨v,rfl,rfl,h5⟩;clear h4 Vj;go_wp2_with fail;refine (NR.o _ _ h5).mono ?_;rintro e w6 ⟨v,rfl,rfl,h6⟩;clear h5 NR;go_wp2_with fail
 refine (VK.o _ (Ro.os HH.o) _ h6).mono ?_;rintro e w7 ⟨v,rfl,r,p2,ps,pi,pn,uv,⟨kv,bx⟩,rfl,⟨k1,k2,k3,k4⟩,h7⟩;clear h6 VK;dsimp only at k1 k2 k3 k4 h7;have hho:=(HC2.o.fresh limit nH.o.1 nH.o.2).hd.hint k1 k2;have hst:Seg.sN D (Seg.dw D) ((Seg.lQ D).map (Rep.upd kv)) (Rep.puts kv):=⟨rfl,⟨kv,k1,k2,rfl,rfl⟩,NU.o⟩;have rU:((Seg.lQ D).map (Rep.upd kv)).length<=999:=by
  unfold Seg.lQ;rw [abl,abl];exact HC2.o.hd.count
 have hpl:(Rep.puts kv).length<=999:=adT (by unfold Rep.puts;rw [abl];exact aiK _ _) k4;have qM:Tab.Lists (Tab.mapOf (Rep.puts kv)) (Rep.puts kv):=Tab.aao (Rep.SK k1.rise);have DL:=uQ (aA.nD.idx hho (HC2.o.fresh limit nH.o.1 nH.o.2).hd.keeps.log oQ);have DN:=uQ (aA.nD.uses hho (HC2.o.fresh limit nH.o.1 nH.o.2).hd.keeps.log oQ);have dQ:=uQ hho.key;have o9:=uQ hst;have rF:=uQ rU;have Hpl:=uQ hpl;have Og:=uQ qM;have Vh:=uQ k3;clear hho hst rU hpl qM k1 k2 k3 k4;generalize (Seg.lQ D).map (Rep.upd kv)=MZ at *
 generalize Rep.puts kv=Ih at *
 generalize Seg.fresh M2 limit=L5 at *
 go_wp2_with (with_reducible apply eG);refine ⟨eU pY h7 rfl ?_⟩;intro b14 w8 h8;clear h7;go_wp2_with ((with_reducible refine bW ⟨?_⟩);refine fG (dW Rep.dI.zero) h8 ah ah ah bU au ah ?_;intro w9 h9);clear h8;refine (alJ (adT Vh.o aG) (adT rF.o aG) (h9.drop.sb:Sat w0 w9 (iT r m limit p2 ps pn false::bZ ps (Seg.dw D) pi uv (.slice none 0 0)::bf pi (Tab.mapOf Ih) bx::aC 205 3 uv (MZ.flatMap bJ)::bf pn (Tab.mapOf Ih) bx::aV p2 m L5::aI m M2::aC 36 36 (.slice fa fl.length fc) (fl.flatMap nO)::aV p m L::F))).mono ?_;rintro e w10 ⟨v,rfl,q,qi,vv,rfl,h10⟩;clear h9;have e0:w10.cell? ⟨q,0,none⟩=some (.int .i64 (Seg.dw D)):=h10.cellP aK 0 rfl;by_cases hD:D=[]
 ·have hl:Seg.dw D = -1:=by rw [hD];rfl
  have Hm:=uQ (show Seg.oh (K1+1100) (E1+2) (B1+60000) M2 D from Seg.oh.nf (HC2.o.mono oQ oQ oQ (ab1 _)) NU.o (by have:=Ny.o;omega) xE.o hD);rw [hl]at e0;clear hD hl;go_wp2_with fail
  go_ret2
  exact ⟨_,rfl,M2,Hm.o,_,rfl,⟨fa,fc,rfl⟩,h10.sb⟩
 ·have hN0:=Seg.GZ hD;have HN:=uQ (And.intro hN0 HC2.o.hd.Cm);obtain ⟨bi,hbi⟩:∃ bi,bi=aO.book Xx.sum aO.uP true (Ih.map Rep.jm):=⟨_,rfl⟩;obtain ⟨bu,hbu⟩:∃ bu,bu=aO.book Xx.sum aO.uS false (MZ.map Rep.jr):=⟨_,rfl⟩;have hBl:bi.length+bu.length<=60000:=by
   rw [hbi,hbu,aO.JC (k:=3) rfl DL.o.row,aO.JC (k:=3) rfl DN.o.row,abl,abl,show aO.kM true 3=44 from rfl,show aO.kM false 3=12 from rfl];have:=Hpl.o;have:=rF.o;omega
  obtain ⟨a1,a2⟩:=Seg.oh.save (HC2.o.mono (ab1 _) (ab1 _) (ab1 _) (ab1 _)) Ny.o (by have:=HE.o;omega) (by have:=HB.o;omega) xE.o o9.o hD hbi hbu hBl;obtain ⟨_,_,_,s4⟩:=HC2.o.acu (by have:=Ny.o;have:=HE.o;omega) (xE.o.hn (Seg.dw D)) hN0 (by have:=HC2.o.hd.Cm;omega) bi bu
  have hsv:=ah8 HC2.o.hd.keeps.calm.ok (by have:=HK1.o;omega) hN0 (by have:=HC2.o.hd.Cm;omega) Ih Og.o (adT Vh.o aG) dQ.o MZ DL.o DN.o bi bu hbi hbu s4
   (h10.sb:Sat w0 w10 (bZ q (Seg.dw D) qi vv (.slice none 0 0)::bf qi (Tab.mapOf Ih) bx::aC 205 3 vv (MZ.flatMap bJ)::aI m M2::aC 36 36 (.slice fa fl.length fc) (fl.flatMap nO)::F))
  rw [a1]at hsv;have Hm:=uQ (show Seg.oh (K1+1100) (E1+2) (B1+60000) (aA.save M2 (Seg.dw D) bi bu).1 D from a2);generalize (aA.save M2 (Seg.dw D) bi bu).1=M3 at *
  generalize Seg.dw D=N5 at *
  clear a1 a2 s4 hbi hbu hBl hD;go_wp2_with fail;refine hsv.mono ?_;rintro e jZ ⟨v,rfl,rfl,h11⟩;go_wp2_with fail
  go_ret2
  exact ⟨_,rfl,M3,Hm.o,_,rfl,⟨fa,fc,rfl⟩,h11.sb⟩
end
theorem abn (q:PV){j:Nat}{v:Value} (h:(aB q.1)[j]?=some v):(jD q)[j]?=some v:=by
 unfold jD;rw [aek (acZ.1 h).1];exact h
theorem abm (q:PV) (hk:q.1.length=32):(jD q)[32]?=some q.2.2:=by
 unfold jD;rw [aew (by rw [aP];omega),aP,hk];rfl
theorem ajK (x y:Operand) (k l:aj.Bs) (hk:k.length=32) (hl:l.length=32) (w:World):((do eqGuard .neq 34 x y (.agg (aB k).toArray) (.agg (aB l).toArray);binOp .neq 34 (.agg (aB k).toArray) (.agg (aB l).toArray)):Sem Value).run prog w=.ok (.bool (!decide (k=l))) w:=by
 have h:=aaB k l hk hl w;simp [eqGuard,aed,h]
section
variable {av bv mv:Value}
theorem amq (ps qs:List PV) (he:ps.map Ij=qs.map Ij) (hp:∀ q∈ps,q.1.length=32) (ha:Ro w0 F (aW 33 av (ps.flatMap jD))) (hb:Ro w0 F (aW 33 bv (qs.flatMap jD))) (hda:∀ q∈ps,Ro w0 F (aW 1 q.2.2 (aB q.2.1))) (hdb:∀ q∈qs,Ro w0 F (aW 1 q.2.2 (aB q.2.1)))
  (hlen:ps.length<=1073741824) (hdl:∀ q∈ps,q.2.1.length<=1073741824) (h:Sat w0 w F) :
  Calls prog 12 #[av,bv] w (aN λv w'=>v=.bool true/\Sat w0 w' F):=by
 have hle:qs.length=ps.length:=by have:=aeO List.length he;rw [abl,abl]at this;exact this.symm
 have hpq:∀ (i:Nat) (p q:PV),ps[i]?=some p->qs[i]?=some q->q.1=p.1/\q.2.1=p.2.1:=λi p q h1 h2=>by
  have:=aeO (λl=>l[i]?) he;simp only [ad1,h1,h2,aiM]at this;have e:=aiJ this;exact ⟨(aeO Prod.fst e).symm,(aeO Prod.snd e).symm⟩
 have hq:∀ q∈qs,q.1.length=32:=λq hm=>by
  obtain ⟨i,hi,rfl⟩:=aoI hm;have h2:=hpq i _ _ (aaJ oQ) (aaJ hi);rw [h2.1];exact hp _ (apn _)
 have Vs:=uQ (show ∀ q∈ps,(jD q).length=33 from λq hm=>zV q (hp q hm));have Jh:=uQ (show ∀ q∈qs,(jD q).length=33 from λq hm=>zV q (hq q hm));obtain ⟨aa,ac,rfl⟩:=iP Vs.o (ha w h) aG;obtain ⟨ba,bc,rfl⟩:=iP Jh.o (hb w h) aG;rw [hle]at hb ⊢;have Ha:=uQ ha;have Hb:=uQ hb;have Hlen:=uQ hlen;have NT:=uQ hda;have Hdb:=uQ hdb;have qC:=uQ hdl;have Hp:=uQ hp;have Hpq:=uQ hpq;have nX:=uQ hle;clear ha hb hlen hda hdb hdl hp hpq hq he hle;go_enter func12,ntmps12;have c0:((ps.length:Int) != (ps.length:Int))=false:=bne_self_eq_false ..;go_wp2_with fail
 go_loopg [5] ps.length (λg iq wr=>∃ i:Nat,g=ps.length-i/\i<=ps.length/\iq=.int .i64 i/\Sat w0 wr F)
 case atStart=>exact ⟨0,rfl,ad4 _,rfl,h⟩
 case round=>
  obtain ⟨i,rfl,hiN,rfl,hS⟩:=hrel;clear h;by_cases hi:i<ps.length
  ·have hic:(i:Int)<(ps.length:Int):=by omega
   have hwi:IntKind.i64.wrap ((i:Int)+1)=(i:Int)+1:=acO _ yS0;obtain ⟨p,hpi⟩:∃ p,ps[i]?=some p:=⟨_,aaJ hi⟩;obtain ⟨q,hqi⟩:∃ q,qs[i]?=some q:=⟨_,aaJ (by rw [nX.o];exact hi)⟩;obtain ⟨e1,e2⟩:=Hpq.o i p q hpi hqi;have hS1:=hS.drew;obtain ⟨bk,off,c',f1,d1⟩:=iL Vs.o (Ha.o _ hS1) hpi aG;obtain ⟨bk2,off2,c2',f2,d2⟩:=iL Jh.o (Hb.o _ hS1) hqi aG;rw [nX.o]at f2;cases f1;cases f2;have Hi:=uQ hi;have FM:=uQ (Hp.o p (acr hpi));have uM:=NT.o p (acr hpi);have hrq:=Hdb.o q (acr hqi);rw [e2]at hrq;have ahN:=qC.o p (acr hpi);obtain ⟨pk,pd,pv⟩:=p;obtain ⟨qk,qd,qv⟩:=q;dsimp only at e1 e2 uM hrq ahN;obtain rfl:pk=qk:=e1.symm;obtain rfl:pd=qd:=e2.symm
   have HGA:=uQ (show (∀ j v,(aB pk)[j]?=some v->World.cell? _ ⟨bk,off+i*33+j,none⟩=some v)/\(∀ j v,(aB pk)[j]?=some v->World.cell? _ ⟨bk2,off2+i*33+j,none⟩=some v)/\World.cell? _ ⟨bk,off+i*33+32,none⟩=some pv/\World.cell? _ ⟨bk2,off2+i*33+32,none⟩=some qv from
    ⟨λj v hj=>d1 j v (abn (pk,pd,pv) hj),λj v hj=>d2 j v (abn (pk,pd,qv) hj),d1 32 _ (abm (pk,pd,pv) FM.o),d2 32 _ (abm (pk,pd,qv) FM.o)⟩)
   have hsm:=amr pd uM hrq hS1 oQ;have hnk:∀ x y w,((do eqGuard .neq 34 x y (.agg (aB pk).toArray) (.agg (aB pk).toArray);binOp .neq 34 (.agg (aB pk).toArray) (.agg (aB pk).toArray)):Sem Value).run prog w=.ok (.bool false) w:=λx y w=>by rw [ajK x y pk pk FM.o FM.o w];simp
   have kX:=uQ (show (aB pk).length=32 by rw [aP,FM.o]);clear hpi hqi hi hiN d1 d2 hS;go_wp2_with fail;refine eF [22,23,24] (λw'=>w'.rangeAt bk (off+i*33) (aB pk)/\w'.rangeAt bk2 (off2+i*33) (aB pk)/\w'.cell? ⟨bk,off+i*33+32,none⟩=some pv/\w'.cell? ⟨bk2,off2+i*33+32,none⟩=some qv) au ?_;have hG:World.rangeAt _ bk (off+i*33) (aB pk)/\World.rangeAt _ bk2 (off2+i*33) (aB pk)/\World.cell? _ ⟨bk,off+i*33+32,none⟩=some pv/\World.cell? _ ⟨bk2,off2+i*33+32,none⟩=some qv:=HGA.o;refine rP 0 ?_ (y:=bD);refine rP 1 ?_ (y:=bD);refine rP 2 ?_ (y:=iV);refine rP 3 ?_ (y:=dh);refine gJ 4 ay au bP (lM (b:=bk) (o:=off+i*33) (aB pk) ah underlying34 rfl yJ0 (λw hw=>hw.1)) aQ gQ ?_;refine rP 5 ?_ (y:=bD);refine rP 6 ?_ (y:=bD);refine rP 7 ?_ (y:=iV);refine rP 8 ?_ (y:=dh)
   refine gJ 9 ay au bP (lM (b:=bk2) (o:=off2+i*33) (aB pk) ah underlying34 rfl yJ0 (λw hw=>hw.2.1)) aQ gQ ?_;refine rP 10 ?_ (y:=(Dt ay ay (hnk _ _)));refine rP 11 ?_ (y:=bD);refine rP 12 ?_ (y:=(iI ah ay));refine rP 13 ?_ (y:=(iI ah ay));refine rP 14 ?_ (y:=(qA ah ay ay bY));refine rP 15 ?_ (y:=(ng ah ay bY));refine gJ 16 ay au bP (mX ah ay au (λwq hq=>hq.2.2.1)) aQ gQ ?_;refine rP 17 ?_ (y:=(iI ah ay));refine rP 18 ?_ (y:=(iI ah ay));refine rP 19 ?_ (y:=(qA ah ay ay bY));refine rP 20 ?_ (y:=(ng ah ay bY));refine gJ 21 ay au bP (mX ah ay au (λwq hq=>hq.2.2.2)) aQ gQ ?_;clear hG;refine cZ 22 ay au (λK hK=>?_);refine F9 [pv,qv] ah au ah ?_;refine hsm.mono ?_;rintro ee w5 ⟨v,rfl,rfl,h5⟩;refine hK _ _ (.inl rfl) ?_;clear hK hsm hS1;refine rP 23 ?_ (y:=(aoj ah ay bY));refine rP 24 ?_ (y:=(ny ah ay ay));refine dX au ?_
   try simp only [jI]
   try go_frame
   go_wp2_with fail
   go_roundg (ps.length-(i+1))
   case measure=>have:=Hi.o;omega
   case rel=>exact ⟨i+1,rfl,ad8 Hi.o,by first|rfl|go_num,h5⟩
  ·obtain rfl:i=ps.length:=by omega
   have hic:¬ (ps.length:Int)<(ps.length:Int):=oQ;clear hi hiN;go_wp2_with fail;go_ret;exact ⟨.bool true,rfl,rfl,hS⟩
end
def V3 (w0:World) (r m:Nat) (limit:Int) (M:ak) (D:List (Nat×List aj.aJ)) (F:List aF) (w:World):Prop:=
 ∃ (p ps pn B:Nat) (G:List aF),B<=999/\Sub G F/\Sat w0 w (iT r m limit p ps pn false::bf pn (Rep.mD (Seg.iH D)) B::aV p m (Seg.fresh M limit)::aI m M::G)
theorem aav (hM:Seg.oh K E B M D) (hK:K<=1048576) (h1:128<=limit) (h2:limit<=1048576) (hH:Ro w0 F Half) (h:Sat w0 w (aI m M::F)) :
  Calls prog 10 #[ptr m,.int .i64 limit] w (aN λv w'=>∃ r,v=.tuple #[ptr r,.agg (dW Rep.dI.zero),errno 0]/\V3 w0 r m limit M D F w'):=by
 obtain ⟨us,pl,hst,hh⟩:=hM.st;refine (abz (hM.fresh limit h1 h2) aG hK hst hh h1 h2 hH h).mono ?_;rintro e w' ⟨v,rfl,r,p,ps,pi,pn,uv,⟨kv,bx⟩,rfl,⟨k1,k2,k3,k4⟩,hS⟩;dsimp only at k1 k2 k3 k4 hS;rw [show Tab.mapOf (Rep.puts kv)=Rep.mD (Seg.iH D) from Rep.akR k1]at hS;exact ⟨_,rfl,r,rfl,p,ps,pn,bx,bZ ps (Seg.dw D) pi uv (.slice none 0 0)::bf pi (Rep.mD (Seg.iH D)) bx::aC 205 3 uv (((Seg.lQ D).map (Rep.upd kv)).flatMap bJ)::F,k3,jS,hS.sb⟩
theorem aau {r:Nat} (hM:Seg.oh K E B M D) (h1:128<=limit) (h2:limit<=1048576) (hH:Ro w0 F Half) (h:V3 w0 r m limit M D F w) :
  Calls prog 11 #[ptr r] w (aN λv w'=>∃ (mv:Value) (qs:List PV),v=.tuple #[mv,.bool true]/\(Tab.Lists (Rep.vW (Seg.lS D)) (qs.map Ij)/\(∀ q∈qs,q.1.length=32/\∃ a n c,q.2.2=.slice a n c)/\qs.length<=999/\(∀ q∈qs,q.2.1.length<=16384)) /\
   Sat w0 w' (aC 122 33 mv (qs.flatMap jD)::oz qs::aI m M::F)):=by
 obtain ⟨p,ps,pn,B',G,hB,hG,hS⟩:=h;refine (ajs (b:=999) (hM.fresh limit h1 h2).hd hB (Ro.of_sub hH hG) hS).mono ?_;rintro e w' ⟨v,rfl,mv,qs,rfl,hq,h2⟩;refine ⟨_,rfl,mv,qs,rfl,hq,?_⟩;have h3:Sat w0 w' (aC 122 33 mv (qs.flatMap jD)::oz qs::aI m M::G):=h2.sb;exact h3.sub (dA aK (dA aK (dA aK hG)))
theorem Yi:Seg.mQ (-1) [(0,([]:aj.Bs))]=[⟨1,0,0⟩,⟨3,0,0⟩]:=rfl
def CB:ak:=((ak.new 1000).create (Seg.name 0)).1
theorem aas:(⟨#[115,101,103,46,48,48,48,48,48,48,48,48]⟩:ByteArray)=Seg.name 0:=by decide +kernel
theorem ajy:((ak.new 1000).create (Seg.name 0)).2=0:=by decide +kernel
theorem ajx:(Seg.fresh CB 200).aH=[0]:=by decide +kernel
theorem ajv:(Seg.fresh CB 200).bytes CB 0=([],0):=by decide +kernel
theorem ajw:CB.now=[(Seg.name 0,0)]:=by decide +kernel
theorem aat:aA.newest CB = -1:=by decide +kernel
theorem ajz (hH:Ro w0 F Half) (h:Sat w0 w F):Calls prog 13 #[] w (aN λv w'=>v=.bool true/\Sat w0 w' F):=by
 have hnew:Calls prog 31 #[.int .i64 1000] w (aN λv w'=>∃ m,v=.tuple #[ptr m,errno 0]/\Sat w0 w' (aI m (ak.new 1000)::F)):=aaE 1000 aG h;have HH:=uQ hH;clear hH;go_enter func13,ntmps13;go_wp2_with fail;refine hnew.mono ?_;rintro e w1 ⟨v,rfl,m,rfl,hS⟩;clear hnew h;have hcr:=zi (ak.Ok.new 20 1000 aG) aG hS ⟨#[115,101,103,46,48,48,48,48,48,48,48,48]⟩ aG;rw [aas,ajy]at hcr;change Calls _ _ _ _ (aN λv w'=>v=errno 0/\Sat w0 w' (aI m CB::F)) at hcr;go_wp2_with fail;rw [aas];refine hcr.mono ?_;rintro e w2 ⟨v,rfl,rfl,hS2⟩;clear hcr hS
 have hck:=aaq (limit:=200) (R:=[(0,[])]) (show Seg.Calm 21 1000 CB from (Seg.Calm.new 20 1000 aG).create _) (λp hp=>by
  rw [ajw,aeG]at hp;subst hp;decide +kernel) ajx (λd hd=>by
  rw [aeG]at hd;subst hd;exact ajv) aG (λd hd=>by
  rw [aeG]at hd;subst hd;decide) (λh _=>by
  rw [aat,Yi]at h;cases h) aG aG HH.o hS2
 rw [aat,Yi]at hck;go_wp2_with fail;refine hck.mono ?_;rintro e w3 ⟨v,rfl,fv,rfl,⟨fa,fc,rfl⟩,hS3⟩;clear hS2 hck;obtain ⟨bk,off,rfl,hcell⟩:=oJ (Sat.rd hS3) (i:=0) (x:= .int .i64 1) rfl;have e0:w3.cell? ⟨bk,off,none⟩=some (.int .i64 1):=hcell 0 _ rfl;clear hcell;go_wp2_with fail;go_ret;exact ⟨_,rfl,rfl,hS3.drop.drop⟩
section
variable {R:List aF}
theorem ai2 (ds:List PC) (hr:Ro w0 F (aW 6 lv (ds.flatMap uX))) (hd:∀ d∈ds,OD w0 F d) (h:Sat w0 w F) :
  Calls prog 7 #[lv] w (aN λv w'=>∃ (m d:Nat) (M D:ak),v=.tuple #[ptr m,ptr d]/\(Seg.rG 12 M D/\Seg.nK 12 6 M)/\Sat w0 w' (aI m M::fH d D::F)):=by
 obtain ⟨la,lc,rfl⟩:=iP (f:=uX) (k:=6) (λ_ _=>rfl) (hr w h) aG;have Hr:=uQ hr;have Hd:=uQ hd;have hnew:Calls prog 31 #[.int .i64 1048576] w (aN λv w'=>∃ m,v=.tuple #[ptr m,errno 0]/\Sat w0 w' (aI m (ak.new 1048576)::F)):=aaE 1048576 aG h;clear hr hd h;go_enter func7,ntmps7;go_wp2_with fail;refine hnew.mono ?_;rintro ee w1 ⟨v,rfl,m,rfl,h1⟩;clear hnew;have Zk:Calls prog 32 #[.int .i64 1048576] w1 (aN λv w'=>∃ d,v=.tuple #[ptr d,errno 0]/\Sat w0 w' (fH d (ak.new 1048576)::aI m (ak.new 1048576)::F)):=alz 1048576 aG h1;go_wp2_with fail;refine Zk.mono ?_;rintro ee w2 ⟨v,rfl,d,rfl,h2⟩;clear Zk h1;have h3:Sat w0 w2 (aI m (ak.new 1048576)::fH d (ak.new 1048576)::F):=h2.sb;have T0:=uQ (And.intro (Seg.rG.first 1048576 aG) Seg.nK.first);generalize ak.new 1048576=M0 at *
 clear h2;go_wp2_with fail
 go_loopg [8] ds.length (λg iq wr=>∃ (i:Nat) (M D:ak),g=ds.length-i/\i<=ds.length/\i<=6/\iq=.int .i64 i/\(Seg.rG (2*i) M D/\Seg.nK (2*i) i M)/\Sat w0 wr (aI m M::fH d D::F))
 case atStart=>exact ⟨0,M0,M0,rfl,ad4 _,ad4 _,rfl,T0.o,h3⟩
 case round=>
  obtain ⟨i,M,D,rfl,hi,Gx,rfl,hT,hS⟩:=hrel;clear h3 T0;have HT:=uQ hT;clear hT;by_cases hlt:i<ds.length;rotate_left
  ·have c1:¬ (i:Int)<(ds.length:Int):=by omega
   have HT2:=uQ (And.intro (HT.o.1.mono (show 2*i<=12 by omega)) (HT.o.2.mono (show 2*i<=12 by omega) Gx));clear hlt hi Gx;go_wp2_with fail
   go_ret2
   exact ⟨_,rfl,m,d,rfl,M,D,HT2.o,hS⟩
  have c1:(i:Int)<(ds.length:Int):=oQ;by_cases Qs:i<6;rotate_left
  ·have c2:¬ (i:Int)<6:=by omega
   have HT2:=uQ (And.intro (HT.o.1.mono (show 2*i<=12 by omega)) (HT.o.2.mono (show 2*i<=12 by omega) Gx));clear hlt hi Gx Qs;go_wp2_with fail
   go_ret2
   exact ⟨_,rfl,m,d,rfl,M,D,HT2.o,hS⟩
  have c2:(i:Int)<6:=oQ;have hwi:=qm (i:=i);obtain ⟨p,hp⟩:∃ p,ds[i]?=some p:=⟨_,aaJ hlt⟩;have hpd:=Hd.o p (acr hp);obtain ⟨bk,off,c',e0,hc⟩:=aa6 (Hr.o _ hS.drop.drop) hp;cases e0
  have HC:=uQ (λ(w':World) (hw:Sat w0 w' F)=>show ∀ j v,(uX p)[j]?=some v->w'.cell? ⟨bk,off+i*6+j,none⟩=some v from by
   obtain ⟨DX,off',c'',e0,hc⟩:=aa6 (Hr.o _ hw) hp;cases e0;exact hc)
  obtain ⟨pn,pes,ev,vY,rv,bad,pat,plain⟩:=p;obtain ⟨hrd,⟨ea,en,ec,rfl,hen⟩,Qn,hrr,⟨ra,rn,rc,rfl,hrn,hrc⟩⟩:=hpd;dsimp only at hrd Qn hrr HC;obtain rfl:rn=vY.length:=by
   obtain ⟨a',n',c',he,hl,_⟩:=hrr _ hS.drop.drop;cases he;rw [aP,aeo]at hl;exact hl.symm
  have FP:=uQ hrd;have Jf:=uQ Qn;have VQ:=uQ hrr;have Jm:=uQ (And.intro hrn hrc);have Hi:=uQ (And.intro hlt Qs);have f0:World.cell? _ ⟨bk,off+i*6,none⟩=some (.int .i64 pn):=HC.o _ hS.drop.drop 0 _ rfl;have f1:World.cell? _ ⟨bk,off+i*6+1,none⟩=some (.slice ea en ec):=HC.o _ hS.drop.drop 1 _ rfl;clear hp hc hrd Qn hrr hrn hrc hen hlt Qs hi Gx;go_wp2_with fail;refine (Nc pn 0 20 _).mono ?_;rintro ee w4 ⟨v,rfl,rfl,rfl⟩;obtain ⟨zk,Zv,hzl⟩:=UM pn 20;have Zw:within pn 0 20=(zk:Int):=Zv;have VI:=uQ (show ∃ k:Nat,k<=20/\Seg.name (within pn 0 20)=Seg.name (k:Int) from ⟨zk,hzl,by rw [Zw]⟩);clear Zv hzl Zw;generalize within pn 0 20=z at *
  go_wp2_with fail;refine (aly z _).mono ?_;rintro ee w4 ⟨v,rfl,rfl,rfl⟩;have AP:=uQ (Seg.H6 z)
  have Jl:=uQ (show (Seg.name z).size<=9223372036854775806 by
   unfold Seg.name;split
   ·decide
   ·rename_i h;have hl:(Seg.lead++Seg.gY z.toNat 8).length=12:=by rw [aa7,Seg.sU];rfl
    have:(⟨(Seg.lead++Seg.gY z.toNat 8).toArray⟩:ByteArray).size=12:=by show (Seg.lead++Seg.gY z.toNat 8).toArray.size=12;simp [hl]
    rw [this];decide)
  have DJ:=uQ (show ∃ k:Nat,k<=20/\Seg.name z=Seg.name (k:Int) from VI.o);clear VI;generalize Seg.name z=nm at *
  go_wp2_with fail;refine (ag3 pes 8 100 aG aG (Ro.os FP.o) (λq hq=>⟨(Jf.o q hq).key,Ro.of_sub (Jf.o q hq).rd jS,(Jf.o q hq).cap⟩) hS).mono ?_;rintro ee w5 ⟨v,rfl,fs,hfs,h5⟩;have hfk:∀ q∈fs,q.1.key.length=32:=X4 (i:=8) hfs (λq hq=>(Jf.o q hq).key);have hfl:fs.length<=8:=by
   have:=aeO List.length hfs;unfold aj.few at this;rw [abl,abl,adt]at this;omega
  have hfd:∀ q∈fs,q.1.data.length<=100:=λq hq=>by
   have h1:q.1∈fs.map (·.1):=adu.2 ⟨q,hq,rfl⟩;rw [hfs]at h1;unfold aj.few at h1;obtain ⟨x,_,e⟩:=adu.1 h1;rw [<-e];show (x.data.take 100).length<=100;rw [adt];exact Nat.min_le_left _ _
  have Qm:=agv hfk h5.drop;have kE:=uQ hfl;clear f0 f1 hS;go_wp2_with fail;refine (alL fs oQ (λw hw=>Sat.rd hw) (λq hq=>⟨hfk q hq,Ro.of_sub (Qm q hq).rd jS,(Qm q hq).cap⟩) hfd h5).mono ?_;rintro ee w6 ⟨v,rfl,bv,gv,lb,rfl,hb1,hb2,h6⟩;have h7:Sat w0 w6 (aY bv lb::aI m M::fH d D::F):=h6.sb;clear h5 h6 Qm hfd hfk hfs hfl;obtain ⟨b,cap,cs,hB,h8⟩:=BO.ofB h7 oQ;have FC:=uQ (show 8<=lb.length/\lb.length<=1136 by have:=kE.o;omega);clear h7 hb1 hb2;obtain rfl:=hB.eq;have f5:World.cell? _ ⟨bk,off+i*6+5,none⟩=some (.bool plain):=HC.o _ h8.drop.drop.drop 5 _ rfl;cases plain with
  |false=>
   have f2:World.cell? _ ⟨bk,off+i*6+2,none⟩=some (.slice ra vY.length rc):=HC.o _ h8.drop.drop.drop 2 _ rfl;have Hl2:=uQ (show 1<=lb.length/\lb.length<=1136 from ⟨adT aG FC.o.1,FC.o.2⟩);have HB:=uQ hB;clear hB;generalize lb=l2 at *
   try go_wp2_with fail
   clear f5;refine (cut_c ra vY.length rc 30 Jm.o.1 Jm.o.2 _).mono ?_;rintro ee w9 ⟨v,rfl,rfl,rfl⟩;clear f2;go_wp2_with (with_reducible apply fZ);refine ⟨ady HB.o h8 ah ah (SN (k:=30) (VQ.o _ h8.drop.drop.drop)) (by rw [adt];have:=Hl2.o;omega) ?_⟩;intro v3 b3 o3 cap3 F8 w10 hB3 h10;clear h8 HB;have nG:=uQ (show 1<=(l2++vY.take 30).length/\(l2++vY.take 30).length<=1200 by rw [aa7,adt];have:=Hl2.o;omega);generalize l2++vY.take 30=l3 at *
   obtain rfl:=hB3.eq;have f3:World.cell? _ ⟨bk,off+i*6+3,none⟩=some (.bool bad):=HC.o _ h10.drop.drop.drop 3 _ rfl;have f4:World.cell? _ ⟨bk,off+i*6+4,none⟩=some (.int .i64 pat):=HC.o _ h10.drop.drop.drop 4 _ rfl;have HB3:=uQ hB3;clear hB3;cases bad with
   |false=>
    clear f4;go_wp2_with fail;have hT1:=And.intro (HT.o.1.create nm).2 (DJ.o.elim λk hk=>hk.2 ▸ HT.o.2.create hk.1);refine (zi HT.o.1.ok oQ (h10.sb:Sat w0 _ (aI m M::pt b3 (.cells _ 5 (0,0))::fH d D::F)) nm AP.o).mono ?_;rintro ee qW ⟨v,rfl,rfl,h20⟩;clear h10;go_wp2_with fail;refine (Lu nm Jl.o (adT HT.o.1.fit.now aG) yW0 yZ0 HT.o.1.fit.ok.left (h20.sb:Sat w0 qW (fH d D::pt b3 (.cells _ 5 (0,0))::aI m (M.create nm).1::F))).mono ?_;rintro ee oN ⟨v,rfl,rfl,h21⟩;clear h20;have HT1:=uQ hT1;clear hT1;generalize (M.create nm).1=M1 at *
    generalize (D.create nm).1=D1 at *
    generalize (M.create nm).2=Pv at *
    generalize (D.create nm).2=Px at *
    have hT2:=And.intro (HT1.o.1.append nm l3 yO0).2 (HT1.o.2.append nm (b:=l3) yO0);go_wp2_with fail;refine (Bg HT1.o.1.ok oQ (h21.sb:Sat w0 oN (aI m M1::pt b3 (.cells _ 5 (0,0))::fH d D1::F)) nm l3 (λw hw=>HB3.o.aW hw)).mono ?_;rintro ee lH ⟨v,rfl,rfl,h22⟩;clear h21;have HT2:=uQ hT2;clear hT2;go_wp2_with fail;refine (Ls nm l3 (λw hw=>HB3.o.aW hw) yO0 HT1.o.1.fit.ok (by have:=Hi.o;omega) zL0 (h22.sb:Sat w0 lH (fH d D1::pt b3 (.cells _ 5 (0,0))::aI m (M1.append nm l3).1::F))).mono ?_;rintro ee IU ⟨v,rfl,rfl,h23⟩;clear h22;generalize (M1.append nm l3).1=M2 at *
    generalize (D1.append nm l3).1=D2 at *
    generalize (M1.append nm l3).2=Py at *
    generalize (D1.append nm l3).2=Pz at *
    go_wp2_with fail
    go_roundg (ds.length-(i+1))
    case measure=>have:=Hi.o;omega
    case rel=>exact ⟨i+1,M2,D2,rfl,ad8 Hi.o.1,ad8 Hi.o.2,by first|rfl|go_num,HT2.o,h23.sb⟩
   |true=>
    have hwl:IntKind.i64.wrap ((l3.length:Int)-1)=((l3.length-1:Nat):Int):=by
     have:=nG.o;rw [acO _ oQ];omega
    go_wp2_with fail;refine (Nc pat 0 ((l3.length-1:Nat):Int) _).mono ?_;rintro ee jZ ⟨v,rfl,rfl,rfl⟩;obtain ⟨za,hza,hzl⟩:=UM pat (l3.length-1);rw [hza];have Ci:za<l3.length:=by have:=nG.o;omega
    have g1:(za:Int)<(l3.length:Int):=oQ;obtain ⟨x0,hx0⟩:∃ x,l3[za]?=some x:=⟨_,aaJ Ci⟩;have g2:World.cell? _ ⟨b3,o3+za,none⟩=some (.int .u8 x0.toNat):=h10.cellAt (o3+za) _ (HB3.o.rd za _ (WU hx0));have hxr:=adK x0 64;have hset:=HB3.o.set Ci (x0 ^^^ 64);have N7:=uQ (show o3+za<F8.size by have:=HB3.o.fit;have:=HB3.o.le;omega);clear hza hzl hwl hx0 f3 f4 HB3;rw [show ((64:UInt8).toNat:Int)=64 from rfl]at hxr;generalize ((x0 ^^^ 64).toNat:Int)=Y at *
    generalize (x0.toNat:Int)=X at *
    generalize hl4:l3.set za (x0 ^^^ 64)=l4 at *
    have hll:l4.length=l3.length:=by rw [<-hl4,ahu]
    rw [<-hll]at nG g1;have heq:=hset.eq;rw [hll]at heq;have vI:=uQ hset;have Hll:=uQ hll;clear hset heq hl4 Ci;rw [<-hll];go_wp2_with ((with_reducible refine bW ⟨?_⟩);refine jM (cs':=F8.setIfInBounds (o3+za) (.int .u8 Y)) h10 ah ay ah bU N7.o au ah ?_;intro w12 h12);clear h10 g2 hxr hll;obtain ⟨l3,rfl⟩:∃ x,x=l4:=⟨l4,rfl⟩;obtain ⟨h10,HB3⟩:=And.intro h12 vI;clear h12 vI;go_wp2_with fail;have hT1:=And.intro (HT.o.1.create nm).2 (DJ.o.elim λk hk=>hk.2 ▸ HT.o.2.create hk.1);refine (zi HT.o.1.ok oQ (h10.sb:Sat w0 _ (aI m M::pt b3 (.cells _ 5 (0,0))::fH d D::F)) nm AP.o).mono ?_;rintro ee qW ⟨v,rfl,rfl,h20⟩;clear h10;go_wp2_with fail;refine (Lu nm Jl.o (adT HT.o.1.fit.now aG) yW0 yZ0 HT.o.1.fit.ok.left (h20.sb:Sat w0 qW (fH d D::pt b3 (.cells _ 5 (0,0))::aI m (M.create nm).1::F))).mono ?_;rintro ee oN ⟨v,rfl,rfl,h21⟩;clear h20
    have HT1:=uQ hT1;clear hT1;generalize (M.create nm).1=M1 at *
    generalize (D.create nm).1=D1 at *
    generalize (M.create nm).2=Pv at *
    generalize (D.create nm).2=Px at *
    have hT2:=And.intro (HT1.o.1.append nm l3 yO0).2 (HT1.o.2.append nm (b:=l3) yO0);go_wp2_with fail;refine (Bg HT1.o.1.ok oQ (h21.sb:Sat w0 oN (aI m M1::pt b3 (.cells _ 5 (0,0))::fH d D1::F)) nm l3 (λw hw=>HB3.o.aW hw)).mono ?_;rintro ee lH ⟨v,rfl,rfl,h22⟩;clear h21;have HT2:=uQ hT2;clear hT2;go_wp2_with fail;refine (Ls nm l3 (λw hw=>HB3.o.aW hw) yO0 HT1.o.1.fit.ok (by have:=Hi.o;omega) zL0 (h22.sb:Sat w0 lH (fH d D1::pt b3 (.cells _ 5 (0,0))::aI m (M1.append nm l3).1::F))).mono ?_;rintro ee IU ⟨v,rfl,rfl,h23⟩;clear h22;generalize (M1.append nm l3).1=M2 at *
    generalize (D1.append nm l3).1=D2 at *
    generalize (M1.append nm l3).2=Py at *
    generalize (D1.append nm l3).2=Pz at *
    go_wp2_with fail
    go_roundg (ds.length-(i+1))
    case measure=>have:=Hi.o;omega
    case rel=>exact ⟨i+1,M2,D2,rfl,ad8 Hi.o.1,ad8 Hi.o.2,by first|rfl|go_num,HT2.o,h23.sb⟩
  |true=>
   have hB4:=hB.agG (by have:=FC.o;omega);have hsl:∀ w,(Instr.sliceAt 59 (.slice (some ⟨b,0,none⟩) lb.length cap) (some (.int .i64 4)) none none).run prog w=.ok (.slice (some ⟨b,4,none⟩) (lb.length-4) (cap-4)) w:=λw=>by
    have q1:=hB.le;have q2:=FC.o.1;have q3:(4:Int)<=(cap:Int):=oQ;have q4:(4:Int)<=(lb.length:Int):=oQ;have q5:¬ cap=4:=oQ;have q6:4<=lb.length:=oQ;have q7:4<=cap:=oQ;clear q1 q2;go_simp
   have f2:World.cell? _ ⟨bk,off+i*6+2,none⟩=some (.slice ra vY.length rc):=HC.o _ h8.drop.drop.drop 2 _ rfl;have hl4:(lb.drop 4).length=lb.length-4:=adX;have Hl2:=uQ (show 1<=(lb.drop 4).length/\(lb.drop 4).length<=1136 by rw [hl4];have:=FC.o;omega);rw [<-hl4]at hB4 hsl;have HB:=uQ hB4;clear hB hB4 hl4;generalize lb.drop 4=l2 at *
   go_wp2_with ((with_reducible refine OV ⟨?_⟩);refine UQ ah ah hsl ?_);clear hsl
   try go_wp2_with fail
   clear f5;refine (cut_c ra vY.length rc 30 Jm.o.1 Jm.o.2 _).mono ?_;rintro ee w9 ⟨v,rfl,rfl,rfl⟩;clear f2;go_wp2_with (with_reducible apply fZ);refine ⟨ady HB.o h8 ah ah (SN (k:=30) (VQ.o _ h8.drop.drop.drop)) (by rw [adt];have:=Hl2.o;omega) ?_⟩;intro v3 b3 o3 cap3 F8 w10 hB3 h10;clear h8 HB;have nG:=uQ (show 1<=(l2++vY.take 30).length/\(l2++vY.take 30).length<=1200 by rw [aa7,adt];have:=Hl2.o;omega);generalize l2++vY.take 30=l3 at *
   obtain rfl:=hB3.eq;have f3:World.cell? _ ⟨bk,off+i*6+3,none⟩=some (.bool bad):=HC.o _ h10.drop.drop.drop 3 _ rfl;have f4:World.cell? _ ⟨bk,off+i*6+4,none⟩=some (.int .i64 pat):=HC.o _ h10.drop.drop.drop 4 _ rfl;have HB3:=uQ hB3;clear hB3;cases bad with
   |false=>
    clear f4;go_wp2_with fail;have hT1:=And.intro (HT.o.1.create nm).2 (DJ.o.elim λk hk=>hk.2 ▸ HT.o.2.create hk.1);refine (zi HT.o.1.ok oQ (h10.sb:Sat w0 _ (aI m M::pt b3 (.cells _ 5 (0,0))::fH d D::F)) nm AP.o).mono ?_;rintro ee qW ⟨v,rfl,rfl,h20⟩;clear h10;go_wp2_with fail;refine (Lu nm Jl.o (adT HT.o.1.fit.now aG) yW0 yZ0 HT.o.1.fit.ok.left (h20.sb:Sat w0 qW (fH d D::pt b3 (.cells _ 5 (0,0))::aI m (M.create nm).1::F))).mono ?_;rintro ee oN ⟨v,rfl,rfl,h21⟩;clear h20;have HT1:=uQ hT1;clear hT1;generalize (M.create nm).1=M1 at *
    generalize (D.create nm).1=D1 at *
    generalize (M.create nm).2=Pv at *
    generalize (D.create nm).2=Px at *
    have hT2:=And.intro (HT1.o.1.append nm l3 yO0).2 (HT1.o.2.append nm (b:=l3) yO0);go_wp2_with fail;refine (Bg HT1.o.1.ok oQ (h21.sb:Sat w0 oN (aI m M1::pt b3 (.cells _ 5 (0,0))::fH d D1::F)) nm l3 (λw hw=>HB3.o.aW hw)).mono ?_;rintro ee lH ⟨v,rfl,rfl,h22⟩;clear h21;have HT2:=uQ hT2;clear hT2;go_wp2_with fail;refine (Ls nm l3 (λw hw=>HB3.o.aW hw) yO0 HT1.o.1.fit.ok (by have:=Hi.o;omega) zL0 (h22.sb:Sat w0 lH (fH d D1::pt b3 (.cells _ 5 (0,0))::aI m (M1.append nm l3).1::F))).mono ?_;rintro ee IU ⟨v,rfl,rfl,h23⟩;clear h22;generalize (M1.append nm l3).1=M2 at *
    generalize (D1.append nm l3).1=D2 at *
    generalize (M1.append nm l3).2=Py at *
    generalize (D1.append nm l3).2=Pz at *
    go_wp2_with fail
    go_roundg (ds.length-(i+1))
    case measure=>have:=Hi.o;omega
    case rel=>exact ⟨i+1,M2,D2,rfl,ad8 Hi.o.1,ad8 Hi.o.2,by first|rfl|go_num,HT2.o,h23.sb⟩
   |true=>
    have hwl:IntKind.i64.wrap ((l3.length:Int)-1)=((l3.length-1:Nat):Int):=by
     have:=nG.o;rw [acO _ oQ];omega
    go_wp2_with fail;refine (Nc pat 0 ((l3.length-1:Nat):Int) _).mono ?_;rintro ee jZ ⟨v,rfl,rfl,rfl⟩;obtain ⟨za,hza,hzl⟩:=UM pat (l3.length-1);rw [hza];have Ci:za<l3.length:=by have:=nG.o;omega
    have g1:(za:Int)<(l3.length:Int):=oQ;obtain ⟨x0,hx0⟩:∃ x,l3[za]?=some x:=⟨_,aaJ Ci⟩;have g2:World.cell? _ ⟨b3,o3+za,none⟩=some (.int .u8 x0.toNat):=h10.cellAt (o3+za) _ (HB3.o.rd za _ (WU hx0));have hxr:=adK x0 64;have hset:=HB3.o.set Ci (x0 ^^^ 64);have N7:=uQ (show o3+za<F8.size by have:=HB3.o.fit;have:=HB3.o.le;omega);clear hza hzl hwl hx0 f3 f4 HB3;rw [show ((64:UInt8).toNat:Int)=64 from rfl]at hxr;generalize ((x0 ^^^ 64).toNat:Int)=Y at *
    generalize (x0.toNat:Int)=X at *
    generalize hl4:l3.set za (x0 ^^^ 64)=l4 at *
    have hll:l4.length=l3.length:=by rw [<-hl4,ahu]
    rw [<-hll]at nG g1;have heq:=hset.eq;rw [hll]at heq;have vI:=uQ hset;have Hll:=uQ hll;clear hset heq hl4 Ci;rw [<-hll];go_wp2_with ((with_reducible refine bW ⟨?_⟩);refine jM (cs':=F8.setIfInBounds (o3+za) (.int .u8 Y)) h10 ah ay ah bU N7.o au ah ?_;intro w12 h12);clear h10 g2 hxr hll;obtain ⟨l3,rfl⟩:∃ x,x=l4:=⟨l4,rfl⟩;obtain ⟨h10,HB3⟩:=And.intro h12 vI;clear h12 vI;go_wp2_with fail;have hT1:=And.intro (HT.o.1.create nm).2 (DJ.o.elim λk hk=>hk.2 ▸ HT.o.2.create hk.1);refine (zi HT.o.1.ok oQ (h10.sb:Sat w0 _ (aI m M::pt b3 (.cells _ 5 (0,0))::fH d D::F)) nm AP.o).mono ?_;rintro ee qW ⟨v,rfl,rfl,h20⟩;clear h10;go_wp2_with fail;refine (Lu nm Jl.o (adT HT.o.1.fit.now aG) yW0 yZ0 HT.o.1.fit.ok.left (h20.sb:Sat w0 qW (fH d D::pt b3 (.cells _ 5 (0,0))::aI m (M.create nm).1::F))).mono ?_;rintro ee oN ⟨v,rfl,rfl,h21⟩;clear h20
    have HT1:=uQ hT1;clear hT1;generalize (M.create nm).1=M1 at *
    generalize (D.create nm).1=D1 at *
    generalize (M.create nm).2=Pv at *
    generalize (D.create nm).2=Px at *
    have hT2:=And.intro (HT1.o.1.append nm l3 yO0).2 (HT1.o.2.append nm (b:=l3) yO0);go_wp2_with fail;refine (Bg HT1.o.1.ok oQ (h21.sb:Sat w0 oN (aI m M1::pt b3 (.cells _ 5 (0,0))::fH d D1::F)) nm l3 (λw hw=>HB3.o.aW hw)).mono ?_;rintro ee lH ⟨v,rfl,rfl,h22⟩;clear h21;have HT2:=uQ hT2;clear hT2;go_wp2_with fail;refine (Ls nm l3 (λw hw=>HB3.o.aW hw) yO0 HT1.o.1.fit.ok (by have:=Hi.o;omega) zL0 (h22.sb:Sat w0 lH (fH d D1::pt b3 (.cells _ 5 (0,0))::aI m (M1.append nm l3).1::F))).mono ?_;rintro ee IU ⟨v,rfl,rfl,h23⟩;clear h22;generalize (M1.append nm l3).1=M2 at *
    generalize (D1.append nm l3).1=D2 at *
    generalize (M1.append nm l3).2=Py at *
    generalize (D1.append nm l3).2=Pz at *
    go_wp2_with fail
    go_roundg (ds.length-(i+1))
    case measure=>have:=Hi.o;omega
    case rel=>exact ⟨i+1,M2,D2,rfl,ad8 Hi.o.1,ad8 Hi.o.2,by first|rfl|go_num,HT2.o,h23.sb⟩
end
end Go.Proofs.Y
namespace Go.Seg
open Go.ak
open Go.aj (Bs aJ encs dV)
open Go.Rep
end Go.Seg
namespace Go.Proofs.Y
open Go.ak
section
variable {R:List aF}{o oc:aj.Bs->Option aj.Bs}
theorem Xw:∀ (es:List PV) (i:Nat) (d:PV),es[i]?=some d->∃ G,oz es=star (aY d.2.2 d.2.1) G
 |[],_,_,h=>by cases h
 |x::es,0,d,h=>by
  obtain rfl:x=d:=by simpa using h
  exact ⟨_,rfl⟩
 |x::es,i+1,d,h=>by
  obtain ⟨G,hG⟩:=Xw es i d yL0;refine ⟨star (aY x.2.2 x.2.1) G,?_⟩;show star (aY x.2.2 x.2.1) (oz es)=_;rw [hG,xg]
theorem Xy {es:List PV}{q:PV} (h:q∈es):Ro w0 (oz es::R) (aW 1 q.2.2 (aB q.2.1)):=λw hw=>by
 obtain ⟨i,hi⟩:=List.getElem?_of_mem h;obtain ⟨G,hG⟩:=Xw es i q hi;rw [hG]at hw;exact Sat.rd (Sat.star.1 hw)
end
theorem aju (z:Int) (ds:List PC) (hr:Ro w0 F (aW 6 lv (ds.flatMap uX))) (hd:∀ d∈ds,OD w0 F d) (hH:Ro w0 F Half) (h:Sat w0 w F) :
  Calls prog 3 #[.int .i64 z,lv] w (aN λv w'=>v=.bool true/\Sat w0 w' F):=by
 have hla:=ai2 ds hr hd h;have HH:=uQ hH;have hwi:=Nc z 128 2000 w;have hwm:=anU z 128 2000 aG;generalize within z 128 2000=lim at *
 have nH:=uQ (show 128<=lim/\lim<=1048576 from ⟨hwm.1,by have:=hwm.2;omega⟩);clear hr hd hH h hwm;go_enter func3,ntmps3;go_wp2_with fail;refine hwi.mono ?_;rintro e w1 ⟨v,rfl,rfl,rfl⟩;clear hwi;go_wp2_with fail;refine hla.mono ?_;rintro e w2 ⟨v,rfl,m,d,M,DM,rfl,⟨_,hlaid⟩,h2⟩;clear hla;obtain ⟨R,D,hpre⟩:=hlaid.pre;have uM:=aax hpre aG aG aG aG nH.o.1 nH.o.2 (Ro.os HH.o) h2;clear hlaid hpre h2;generalize Seg.mQ (aA.newest M) R=fl1 at *
 go_wp2_with fail;refine uM.mono ?_;rintro e w3 ⟨v,rfl,M1,hM1,fv1,rfl,⟨a1,c1,rfl⟩,h3⟩;clear uM;have Jb:=uQ hM1;have h4:Sat w0 w3 (aI m M1::fH d DM::F):=h3.sb;clear h3;have hck:=ajt hM1.pre nH.o.1 nH.o.2 (Ro.os HH.o) h4;rw [hM1.none]at hck;clear h4 hM1;go_wp2_with fail;refine hck.mono ?_;rintro e w4 ⟨v,rfl,fv2,rfl,⟨a2,c2,rfl⟩,h5⟩;clear hck;have h6:Sat w0 w4 (aI m M1::fH d DM::F):=h5.sb;clear h5;have hop:=aav Jb.o aG nH.o.1 nH.o.2 (Ro.os HH.o) h6;clear h6;go_wp2_with fail;refine hop.mono ?_;rintro e w5 ⟨v,rfl,r,rfl,p,ps,pn,B1,G1,hB1,hG1,h7⟩;clear hop;go_wp2_with (with_reducible apply eG);refine ⟨eU pY h7 rfl ?_⟩;intro b12 w6 h8;go_wp2_with ((with_reducible refine bW ⟨?_⟩);refine fG (dW Rep.dI.zero) h8 ah ah ah bU au ah ?_;intro w7 h9);clear h7 h8
 have hmp:=aau (F:=fH d DM::F) Jb.o nH.o.1 nH.o.2 (Ro.os HH.o) ⟨p,ps,pn,B1,G1,hB1,hG1,h9.drop⟩;clear h9;refine hmp.mono ?_;rintro e w8 ⟨v,rfl,KN,yG,rfl,⟨x1,x2,x3,x4⟩,h10⟩;clear hmp hG1 hB1;have Hx:=uQ (And.intro x1 (And.intro x2 (And.intro x3 x4)));clear x1 x2 x3 x4;have h11:Sat w0 w8 (aI m M1::aC 122 33 KN (yG.flatMap jD)::oz yG::fH d DM::F):=h10.sb;clear h10;have uM:=aax Jb.o.pre aG aG aG aG nH.o.1 nH.o.2 (Ro.os HH.o) h11;rw [Jb.o.none]at uM;clear h11;go_wp2_with fail;refine uM.mono ?_;rintro e w9 ⟨v,rfl,M2,hM2,fv3,rfl,⟨a3,c3,rfl⟩,h12⟩;clear uM;have Fe:=uQ hM2;have h13:Sat w0 w9 (aI m M2::aC 122 33 KN (yG.flatMap jD)::oz yG::F):=h12.sb;clear h12 hM2;have hop:=aav Fe.o aG nH.o.1 nH.o.2 (Ro.os HH.o) h13;clear h13;go_wp2_with fail;refine hop.mono ?_;rintro e w10 ⟨v,rfl,r2,rfl,p2,ps2,pn2,B2,G2,hB2,hG2,fP⟩;clear hop
 go_wp2_with (with_reducible apply eG);refine ⟨eU pY fP rfl ?_⟩;intro b18 jZ h15;go_wp2_with ((with_reducible refine bW ⟨?_⟩);refine fG (dW Rep.dI.zero) h15 ah ah ah bU au ah ?_;intro w12 h16);clear fP h15;have hmp:=aau (F:=aC 122 33 KN (yG.flatMap jD)::oz yG::F) Fe.o nH.o.1 nH.o.2 (Ro.os HH.o) ⟨p2,ps2,pn2,B2,G2,hB2,hG2,h16.drop⟩;clear h16;refine hmp.mono ?_;rintro e ku ⟨v,rfl,mv2,SL,rfl,⟨y1,y2,y3,y4⟩,h17⟩;clear hmp hG2 hB2
 have hsm:=amq yG SL (Hx.o.1.unique y1) (λq hq=>(Hx.o.2.1 q hq).1) (Ro.zM (λw hw=>Sat.rd hw) aK) (Ro.zM (λw hw=>Sat.rd hw) fE)
  (λq hq=>Ro.zM (Xy hq) aT) (λq hq=>Ro.zM (Xy hq) iw) (adT Hx.o.2.2.1 aG) (λq hq=>adT (Hx.o.2.2.2 q hq) aG)
  (h17.sb:Sat w0 ku (aC 122 33 KN (yG.flatMap jD)::oz yG::aC 122 33 mv2 (SL.flatMap jD)::oz SL::F))
 clear h17 y1 y2 y3 y4;go_wp2_with fail;refine hsm.mono ?_;rintro e kC ⟨v,rfl,rfl,h18⟩;clear hsm;go_wp2_with fail;refine (ajz HH.o (h18.sb:Sat w0 kC F)).mono ?_;rintro e IQ ⟨v,rfl,rfl,h19⟩;go_wp2_with fail;go_ret;exact ⟨_,rfl,rfl,h19⟩
end Go.Proofs.Y
namespace Go.Proofs.Y.card
open Go.ChangeShapes Go.WideShapes Go.ChangeAt Go.RowKit
open Go Go.Sl Go.ak
theorem aho:prog.globalNamed "hoard/crc.half" = some 0:=by kernel_rfl
theorem ane:((prog.globals[0]?).map (·.type))=some 361:=by kernel_rfl
theorem door_met (os:Os) (args:Array Value):laidMetH prog [("hoard/crc.half",Rows.laid_hoard_crc_half)] ((World.doorLaid prog 400 os).forCall (λ_ _=>0) ⟨#[],args,[]⟩).memory:=
 laidMetH_of_parts3 (fuel:=8) (laidMet_of_run' 8 au au) au au
theorem of_laid {W:World} (h:laidMetH prog [("hoard/crc.half",Rows.laid_hoard_crc_half)] W):0<W.heap.size/\Half W:=by
 rw [MakeChecks.laidMetH_plain _ _ _ au]at h;obtain ⟨ps,⟨g0,t0,cs0,f0,p0,q0,hg0,ht0,hv0,hd0,hrest⟩,aoY⟩:=h;obtain rfl:=aiJ (aho.symm.trans hg0);obtain rfl:=aiJ (ane.symm.trans ht0);obtain ⟨xs,m1,rfl,hx1,hlen,hn3,hel⟩:=DataW.trod_array underlying361 hd0;have c3:prog.cellsOf 232=1:=by kernel_rfl
 simp only [Prod.mk.injEq,Rows.laid_hoard_crc_half,DataW.agg.injEq]at hx1;have hH:Half W:=by
  intro i hi;have h0:=hel i hi;have hxi:xs[i]?=some (xs[i]'oQ):=aaJ oQ;rw [hxi]at h0;obtain ⟨k,e1,e2,_⟩:=DataW.trod_int underlying232 h0;rw [c3,aeo]at e1;have hc:cs0.toList[i]?=some (.int .u32 k):=by
   have:((cs0.toList.drop i).take 1)[0]?=some (.int .u32 k):=by rw [e1];rfl
   rw [alM,adU aG,aoz]at this;exact this
  have hL:=aeO (λl=>l[i]?) hx1.1;rw [ad1,hxi]at hL;have hk:k=((aj.half.getD i 0:Nat):Int):=by
   rw [e2]at hL;rcases i with _|_|_|_|_|_|_|_|_|_|_|_|_|_|_|_|i
   all_goals first|omega|(simp at hL;rw [<-hL];rfl)
  subst hk;have:=World.var?_cell hg0 hv0 i;rw [this,<-ahC];exact hc
 refine ⟨?_,hH⟩;by_cases hz:0<W.heap.size
 ·exact hz
 ·have h0:=hH 0 aG;have e:W.heap[0]?=none:=apr oQ;simp [World.cell?,e]at h0
end Go.Proofs.Y.card
