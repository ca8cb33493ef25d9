import Derived.Test.YtihngncbioofnaaGreatDoorJ5
import Derived.Test.YtihngncbioofnaaGreatDoorSort
import Derived.Laws.Slices
open Go.Proofs.Tryz
set_option maxRecDepth 20000
set_option linter.unusedVariables false
set_option linter.unusedSimpArgs false
set_option maxHeartbeats 128000000
open Go Go.Sl Go.MapKept Go.RowKit
open Go.Proofs.YtihngncbioofnaaGreatDoor
variable {w0 w:World}{F R:List aG}{v bv dv x lv:Value}{p B q m K b B':Nat}{M:ay.ay}{s:Int×Int}
theorem yH0{p:Prop} (h:p:=by have:=Hn.o;omega):p:=h
namespace Go.Proofs.Y
open Go.ay
open Go.Sort
abbrev VX:Type:={ x:Tab.Slot (Seg.aV) // x.key.length=32 }
instance:Inhabited VX:=⟨⟨⟨0,aj.zero32,Seg.aV.zero⟩,rfl⟩⟩
abbrev fJ.nM:Nat:=36
abbrev fJ.Bd:Nat:=3
theorem fJ.LZ:type_of% @wY:=@wY
theorem fJ.Ug:type_of% @Tryz.sortL:=@Tryz.sortL
abbrev fJ.GH:Nat:=181
abbrev fJ.qR:=@VX
theorem fJ.ac7:type_of% @Tryz.isAgg164:=@Tryz.isAgg164
theorem fJ.ac8:type_of% @Tryz.sizeOf164:=@Tryz.sizeOf164
theorem fJ.Ui:type_of% @yO:=@yO
theorem fJ.ac9:type_of% @W9:=@W9
abbrev fJ.Uj:Nat:=180
open fJ in
theorem anj (l:List (Tab.Slot (Seg.aV))) (hk:∀ x∈l,x.key.length=32) (hn:l.length<=1073741824) (h:Sat w0 w (aC 164 36 v (l.flatMap (slotL aW))::F)) :
  Calls prog 180 #[v,.func (.func 181) #[] #[]] w (aP λ_ w'=>∃ l':List (Tab.Slot (Seg.aV)),(l'.Perm l/\l'.Pairwise λa b=>¬ b.key<a.key)/\Sat w0 w' (aC 164 36 v (l'.flatMap (slotL aW))::F)):=aap
open Go.ay
section
variable {sv:Value}{k:aj.Bs}{m:aj.Bs->Option (Seg.aV)}{t:Tab.Tb (Seg.aV)}
theorem RU (hB:B<=13000000) (h:Sat w0 w (aH p m B::F)) :
  Calls prog 148 #[ptr p] w (aP λv w'=>∃ l:List (Tab.Slot (Seg.aV)),(Tab.Lists m (l.map λx=>(x.key,x.val))/\(∀ x∈l,x.st=1/\x.key.length=32)/\l.length<=B)/\Sat w0 w' (aC 164 36 v (l.flatMap (slotL aW))::aH p m B::F)):=by
 obtain ⟨t,sv,⟨ok,is,hb⟩,hR⟩:=aH.open h;have hsz:t.slots.length<=56000000:=by have:=ok.size;omega
 have Hlen:=uQ (show ∀ x∈t.slots,(slotL aW x).length=36 from λx hx=>lS aW x (ok.good.key x hx) 3 (wY _));obtain ⟨la,lc,rfl⟩:=jK Hlen.o (Sat.rd (hR.pick bf)) aN;have dB:=uQ ok;have lF:=uQ is;have Hb:=uQ hb;have iZ:=uQ hsz;have lV:=uQ ok.good.nY;clear h ok is hb hB;have hS0:Sat w0 w (aC 164 36 (.slice none 0 0) []::iI p 166 (.slice la t.slots.length lc) t.n t.gone::aC 164 36 (.slice la t.slots.length lc) (t.slots.flatMap (slotL aW))::F):=Sat.gB.2 hR;clear hR;go_enter func148,ntmps148;go_wp2_with fail;refine (Dh lV.o (hS0.pick bf)).mono ?_;rintro ee w7 ⟨v,rfl,rfl,rfl⟩;go_wp2_with ((with_reducible refine bP ⟨?_⟩);refine fZ hS0 ah bJ bI ak au ?_)
 go_loopg [3,14] t.slots.length (λg oq iq wr=>∃ (i:Nat),g=t.slots.length-i/\i<=t.slots.length/\iq=.int .i64 i /\
  Sat w0 wr (aC 164 36 oq (((t.slots.take i).filter λx=>decide (x.st=1)).flatMap (slotL aW))::iI p 166 (.slice la t.slots.length lc) t.n t.gone::aC 164 36 (.slice la t.slots.length lc) (t.slots.flatMap (slotL aW))::F))
 case atStart=>exact ⟨0,rfl,aea _,rfl,hS0⟩
 case round=>
  obtain ⟨i,rfl,hi,rfl,hS⟩:=hrel;clear hS0;by_cases hlt:i<t.slots.length;rotate_left
  ·obtain rfl:i=t.slots.length:=by omega
   have c1:¬ (t.slots.length:Int)<(t.slots.length:Int):=oQ;rw [aeo]at hS;have hfk:∀ x∈t.slots.filter λx=>decide (x.st=1),x.key.length=32:=λx hx=>dB.o.good.key x (aem.1 hx).1;have hs:=anj (t.slots.filter λx=>decide (x.st=1)) hfk (adt (aeT _ _) (adt hsz aN)) hS;clear hlt hi hS hfk;go_wp2_with fail;refine hs.mono ?_;rintro ee w8 ⟨v,rfl,l,⟨h1,h2⟩,mO⟩;clear hs;have Hl:=uQ (Tab.Qu dB.o.good lF.o h1 h2)
   have Hll:=uQ (show l.length<=B from by
    rw [h1.length_eq,<-List.countP_eq_length_filter];have e:t.slots.countP (λx=>decide (x.st=1))=Tab.kD t.slots:=by
     unfold Tab.kD;refine List.countP_congr λx _=>?_;simp
    have:=dB.o.n;have:=Hb.o;omega)
   clear h1 h2;go_wp2_with fail;go_ret;exact ⟨_,rfl,l,⟨Hl.o.1,Hl.o.2,Hll.o⟩,Sat.abo (aH.shut dB.o lF.o Hb.o (mO.sb))⟩
  have c1:(i:Int)<(t.slots.length:Int):=oQ;have hwi:=CS (i:=i);obtain ⟨x,hx⟩:∃ x,t.slots[i]?=some x:=⟨_,aay hlt⟩;have hxm:=abA hx;have hst:=dB.o.good.st x hxm;have Hxk:=uQ (dB.o.good.key x hxm);obtain ⟨bk,off,c',hsv,hcell⟩:=jd Hlen.o (Sat.rd (hS.pick eH)) hx aN;cases hsv;have jo:=Hlen.o x hxm;have htk:(t.slots.take (i+1)).filter (λx=>decide (x.st=1))=(t.slots.take i).filter (λx=>decide (x.st=1))++[x].filter λx=>decide (x.st=1):=by
   rw [aeK,hx,afw,ajO]
  have eG:=uQ htk;have bT:=uQ hlt;have Fj:(((t.slots.take i).filter λx=>decide (x.st=1)).flatMap (slotL aW)).length<=2147483648:=by
   rw [jy λy hy=>Hlen.o y (aeP (aem.1 hy).1)];have h1:=aeT (λx=>decide (x.st=1)) (t.slots.take i);have h2:=apE i t.slots;have h3:=iZ.o;omega
  clear hx hxm hlt hi htk
  go_wp2_with (first
   |((with_reducible refine bP ⟨?_⟩);refine iR (b:=bk) (o:=off+i*36) (slotL aW x) ah hcell underlying164 rfl yX0 ?_)
   |(with_reducible apply fB))
  refine ⟨eF xC hS rfl ?_⟩;intro b7 w7 hS7;go_wp2_with (first|((with_reducible refine dh ⟨?_⟩);refine fP (slotL aW x).toArray hS7 ah ah (by rw [abn,jo];rfl) cZ yQ0 (by rw [ad6];exact rM aW x (yO _)) ?_;intro w10 fK)|(with_reducible apply bP));refine ⟨?_⟩;clear hS hS7 hcell;have f0:w10.cell? ⟨b7,0,none⟩=some (.int .i64 x.st):=fK.cellP aU 0 (by rw [ace];rfl);by_cases h1:x.st=1;rotate_left
  ·have hst1:((x.st:Int)==1)=false:=by rw [adX];omega
   have e9:(t.slots.take (i+1)).filter (λx=>decide (x.st=1))=(t.slots.take i).filter (λx=>decide (x.st=1)):=by
    rw [eG.o,an5 (by rw [ad2 h1];decide),List.filter_nil,adV]
   have E9:=uQ e9;clear h1 e9;go_wp2_with fail
   go_roundg (t.slots.length-(i+1))
   case measure=>have:=bT.o;omega
   case rel=>exact ⟨i+1,rfl,bT.o,by first|rfl|go_num,by rw [E9.o];exact fK.sb⟩
  ·have hst1:((x.st:Int)==1)=true:=by rw [h1];rfl
   have e9:((t.slots.take (i+1)).filter (λx=>decide (x.st=1))).flatMap (slotL aW)=((t.slots.take i).filter (λx=>decide (x.st=1))).flatMap (slotL aW)++slotL aW x:=by
    rw [eG.o,apF (by rw [aeb h1]),List.filter_nil,aeB,ael,ajb,adV]
   have E9:=uQ e9;clear h1 e9
   go_wp2_with (first
    |((with_reducible refine bP ⟨?_⟩);refine iQ fK ah bJ underlying164 rfl yQ0 ?_)
    |(with_reducible apply nR))
   refine ⟨nN (e:=164) (sz:=36) (eX:=64) au fK ah (cs:=(slotL aW x).toArray) rfl (by rw [abn,jo]) aN ?_⟩;intro bN wN hN;go_wp2_with (with_reducible apply lH);refine ⟨oh 164 36 64 au hN ah ah bJ aU (by rw [abn,jo]) (abl 1) (by rw [ad6];exact rM aW x (yO _)) Fj (by rw [abn,jo];decide) aN (by rw [ad6]) ?_⟩;intro bA nA cA wA hA;go_wp2_with fail;rw [<-E9.o]at hA
   go_roundg (t.slots.length-(i+1))
   case measure=>have:=bT.o;omega
   case rel=>exact ⟨i+1,rfl,bT.o,by first|rfl|go_num,hA.sb⟩
end
end Go.Proofs.Y
namespace Go.Tab
open Go.aj (Bs)
open Go.Seg (aV)
open Go.Rep (dY)
section
variable {V:Type}
def mapOf (l:List (Bs×V)):Bs->Option V:=l.foldl (λm p=>put m p.1 p.2) λ_=>none
theorem QG (l:List (Bs×V)) (p:Bs×V):mapOf (l++[p])=put (mapOf l) p.1 p.2:=by unfold mapOf;rw [apv];rfl
theorem aaw:∀ (n:Nat){l:List (Bs×V)},l.length=n->l.Pairwise (λa b=>a.1<b.1)->∀ k v,(k,v)∈l↔mapOf l k=some v
 |0,l,hn,_,k,v=>by
  obtain rfl:l=[]:=agZ hn;exact ⟨(λh=>by cases h),(λh=>by cases h)⟩
 |n+1,l,hn,hs,k,v=>by
  obtain ⟨l',p,rfl⟩:∃ l' p,l=l'++[p]:=⟨l.dropLast,l.getLast (by intro e;rw [e]at hn;cases hn),(List.dropLast_concat_getLast _).symm⟩;have hn':l'.length=n:=by rw [aaL]at hn;simpa using hn
  obtain ⟨s1,_,s3⟩:=aiq.1 hs;have ih:=aaw n hn' s1 k v;rw [QG,aeg,adZ];show _↔(if k=p.1 then some p.2 else mapOf l' k)=some v;by_cases hk:k=p.1
  ·rw [acg hk];constructor
   ·rintro (h|h)
    ·exact absurd (hk ▸ s3 _ h p (.head _)) (apL _)
    ·rw [<-h]
   ·intro h;exact .inr (by rw [hk,<-ai2 h])
  ·rw [abj hk,<-ih];exact ⟨λh=>h.elim id λe=>absurd (aey Prod.fst e) hk,.inl⟩
theorem J4 {l:List (Bs×V)} (hs:l.Pairwise λa b=>a.1<b.1):Lists (mapOf l) l:=⟨hs,aaw _ rfl hs⟩
end
end Go.Tab
namespace Go.Rep
open Go.aj (Bs)
open Go.Tab
theorem abx (l:List (Bs×dY)) (p:Bs×dY):puts (l++[p])=if p.2.tag=0 then puts l++[(p.1,p.2.place)] else puts l:=by
 unfold puts;rw [ajO];by_cases h:p.2.tag=0
 ·rw [acg h,apF (by rw [aeb h]),List.filter_nil,adU];rfl
 ·rw [abj h,an5 (by rw [ad2 h];decide),List.filter_nil,adV]
theorem Dp {l:List (Bs×dY)} (h:l.Pairwise λa b=>a.1<b.1):(puts l).Pairwise λa b=>a.1<b.1:=by
 unfold puts;rw [ajM];exact h.filter _
theorem FT (s:Int):∀ (l:List (Bs×dY)) (p:Bs×dY),gZ s (l++[p])=gZ s l+(if counts p.2=true/\p.2.place.seg=s then p.2.place.size else 0)
 |[],p=>by simp [gZ]
 |q::l,p=>by
  have:=FT s l p;simp only [aeI,gZ];omega
theorem Qv (s:Int){b:Int} (hb:0<=b):∀ (l:List (Bs×dY)),(∀ p∈l,0<=p.2.place.size/\p.2.place.size<=b)->0<=gZ s l/\gZ s l<=b*l.length
 |[],_=>by simp [gZ]
 |q::l,h=>by
  obtain ⟨i1,i2⟩:=Qv s hb l λp hp=>h p (.tail _ hp);obtain ⟨j1,j2⟩:=h q (.head _);have e:b*((q::l).length:Int)=b*l.length+b:=by rw [aep,Int.natCast_succ,Int.mul_add,Int.mul_one]
  rw [e];simp only [gZ];split <;> omega
end Go.Rep
namespace Go.Proofs.Y
open Go.ay
def jX (b:Nat) (f:Int->Int):aG:=λh=>∃ l:List (Value×Value),((∀ p∈l,∃ k v:Int,p=(.int .i64 k,.int .i64 v)/\f k=v)/\∀ k:Int,(∀ p∈l,p.1 ≠ .int .i64 k)->f k=0)/\omap (.int .i64) b l h
section
variable {f:Int->Int}{l:List (Value×Value)}
theorem ZF (h:Sat w0 w (jX b f::R)):∃ l:List (Value×Value),((∀ p∈l,∃ k v:Int,p=(.int .i64 k,.int .i64 v)/\f k=v)/\∀ k:Int,(∀ p∈l,p.1 ≠ .int .i64 k)->f k=0)/\Sat w0 w (omap (.int .i64) b l::R):=by
 obtain ⟨ha,x,hx,p,q,dd,rfl,⟨l,h1,h2⟩,hq⟩:=h;exact ⟨l,h1,ha,_,hx,p,q,dd,rfl,h2,hq⟩
theorem ZG (h1:∀ p∈l,∃ k v:Int,p=(.int .i64 k,.int .i64 v)/\f k=v) (h2:∀ k:Int,(∀ p∈l,p.1 ≠ .int .i64 k)->f k=0) (h:Sat w0 w (omap (.int .i64) b l::R)):Sat w0 w (jX b f::R):=
 h.head λ_ hx=>⟨l,⟨h1,h2⟩,hx⟩
theorem ZE (h:Sat w0 w R):Sat w0 (w.alloc (.map #[] 0)) (jX w.heap.size (λ_=>0)::R):=ZG yF0 (λ_ _=>rfl) (h.F7 (.int .i64))
theorem JK (k:Int) (h:Sat w0 w (jX b f::R)):(Instr.lookup 142 (.map (some b)) (.int .i64 k) false).run prog w=.ok (.int .i64 (f k)) w:=by
 obtain ⟨l,⟨h1,h2⟩,hS⟩:=ZF h;rcases Tm (key:= .int .i64 k) underlying142 underlying3 (z:= .int .i64 0) au rfl hS with ⟨v,hm,e,_⟩|⟨hn,e,_⟩
 ·obtain ⟨k',v',hp,hf⟩:=h1 _ hm;cases hp;rw [e,hf]
 ·rw [e,h2 k hn]
theorem Qi (k v:Int) (h:Sat w0 w (jX b f::R)):∃ w',(Instr.mapUpdate 142 (.map (some b)) (.int .i64 k) (.int .i64 v)).run prog w=.ok () w'/\Sat w0 w' (jX b (λs=>if s=k then v else f s)::R):=by
 obtain ⟨l,⟨h1,h2⟩,hS⟩:=ZF h;obtain ⟨w',hr,hs⟩:=Sl.run_store (key:= .int .i64 k) underlying142 underlying3 rfl (.int .i64 v) hS;refine ⟨w',hr,?_⟩;have hnd:=hS.KA;obtain ⟨l0,hl0,hne,hin,hout⟩:∃ l0:List (Value×Value),(l.Perm l0/\(∀ p∈l0,p.1 ≠ .int .i64 k)\/∃ v0,l.Perm ((.int .i64 k,v0)::l0))/\(∀ p∈l0,p.1 ≠ .int .i64 k)/\(∀ p∈l0,p∈l)/\∀ p∈l,p.1 ≠ .int .i64 k->p∈l0:=by
  by_cases hk:∃ p∈l,p.1=.int .i64 k
  ·obtain ⟨⟨_,v0⟩,hm,rfl⟩:=hk;obtain ⟨l1,l2,e12⟩:=List.append_of_mem hm;have hp:l.Perm ((.int .i64 k,v0)::(l1++l2)):=by rw [e12];exact apb
   have Zj:=(hp.map (·.1)).nodup_iff.1 hnd;rw [ad7,akZ]at Zj
   exact ⟨_,.inr ⟨v0,hp⟩,λp hp' e=>Zj.1 (abL.2 ⟨p,hp',e⟩),λp hp'=>hp.mem_iff.2 (.tail _ hp'),λp hp' hne=>by
    rcases ad5.1 (hp.mem_iff.1 hp') with e|e
    ·exact absurd (by rw [e]) hne
    ·exact e⟩
  ·have hk':∀ p∈l,p.1 ≠ .int .i64 k:=λp hp e=>hk ⟨p,hp,e⟩;exact ⟨l,.inl ⟨.refl _,hk'⟩,hk',λ_ h=>h,λ_ h _=>h⟩
 refine ZG (l:=(.int .i64 k,.int .i64 v)::l0) ?_ ?_ (hs l0 hl0)
 ·intro p hp;rcases ad5.1 hp with rfl|hp
  ·exact ⟨k,v,rfl,acg rfl⟩
  ·obtain ⟨k',v',rfl,hf⟩:=h1 p (hin p hp);refine ⟨k',v',rfl,?_⟩;show (if k'=k then v else f k')=v';rw [abj (λe=>hne _ hp (by rw [e])),hf]
 ·intro k' hk';have hkk:k'≠k:=λe=>hk' _ (.head _) (by rw [e]);show (if k'=k then v else f k')=0;rw [abj hkk];refine h2 k' λp hp e=>?_;exact hk' p (.tail _ (hout p hp (λe2=>hkk (by rw [e2]at e;cases e;rfl)))) e
end
section
variable {m:aj.Bs->Option Seg.aV}
theorem aH.mono (hB:B<=B') (h:Sat w0 w (aH p m B::R)):Sat w0 w (aH p m B'::R):=by
 obtain ⟨t,sv,⟨ok,is,hb⟩,hS⟩:=aH.open h;exact aH.shut ok is (adt hb hB) hS
end
theorem Xg (x:Rep.dY) (h:Sat w0 w F):Calls prog 159 #[.agg (fM x).toArray] w (aP λv w'=>v=.bool (Rep.counts x)/\Sat w0 w' F):=by
 obtain ⟨tag,⟨seg,at_,size⟩,first⟩:=x;show Calls prog 159 #[.agg #[.int .i64 tag,.int .i64 seg,.int .i64 at_,.int .i64 size,.int .i64 first]] w _;have Hc:=uQ (show ∀ c,c=(decide (tag=0) || (decide (0<=first) && decide (first<seg)))->c=Rep.counts ⟨tag,⟨seg,at_,size⟩,first⟩ from λc hc=>hc);go_enter func159,ntmps159;go_wp2_with (first|((with_reducible refine fD ⟨?_⟩);refine fE aQ ak ak ?_;intro bB wB hB)|(with_reducible apply bP));refine ⟨?_⟩;have f0:wB.cell? ⟨bB,0,none⟩=some (.int .i64 tag):=hB.cellP aU 0 rfl;have f1:wB.cell? ⟨bB,1,none⟩=some (.int .i64 seg):=hB.cellP aU 1 rfl;have f2:wB.cell? ⟨bB,4,none⟩=some (.int .i64 first):=hB.cellP aU 4 rfl;have HB:=uQ hB.drop;clear hB h;by_cases h0:tag=0
 ·have hb:(tag==0)=true:=ai5.2 h0;have e:=Hc.o true (by simp [h0]);have He:=uQ e;clear h0 e Hc;go_wp2_with fail;go_ret;exact ⟨_,rfl,aey Value.bool He.o,HB.o⟩
 ·have hb:(tag==0)=false:=by rw [adX];exact h0
  by_cases h1:0<=first
  ·by_cases h2:first<seg
   ·have He:=uQ (Hc.o true (by simp [h0,h1,h2]));clear h0 Hc;go_wp2_with fail;go_ret;exact ⟨_,rfl,aey Value.bool He.o,HB.o⟩
   ·have He:=uQ (Hc.o false (by simp [h0,h2]));clear h0 Hc;go_wp2_with fail;go_ret;exact ⟨_,rfl,aey Value.bool He.o,HB.o⟩
  ·have He:=uQ (Hc.o false (by simp [h0,h1]));clear h0 Hc;go_wp2_with fail;go_ret;exact ⟨_,rfl,aey Value.bool He.o,HB.o⟩
end Go.Proofs.Y
namespace Go.Rep
structure Use where
 seg:Int
 size:Int
 live:Int
def upd (kv:List (aj.Bs×dY)) (u:Use):Use:=⟨u.seg,u.size,gZ u.seg kv⟩
def half (kv:List (aj.Bs×dY)) (us:List Use) (i:Nat):List Use:=(us.take i).map (upd kv)++us.drop i
section
variable {kv:List (aj.Bs×dY)}{us:List Use}{i:Nat}{u:Use}
theorem PG:(half kv us i).length=us.length:=by
 unfold half;rw [aaL,aa4,<-aaL,aeS]
theorem ah7:half kv us us.length=us.map (upd kv):=by unfold half;rw [aeo,apH,adV]
theorem ah8 (h:us[i]?=some u):(half kv us i)[i]?=some u:=by
 unfold half;have hi:=(abm.1 h).1;have e:((us.take i).map (upd kv)).length=i:=by rw [aa4,ads];omega
 rw [aeh oQ,e,ajN,ao5,ai6];exact h
theorem ah9 (h:us[i]?=some u):(half kv us i).set i (upd kv u)=half kv us (i+1):=by
 obtain ⟨hi,rfl⟩:=abm.1 h;have e:((us.take i).map (upd kv)).length=i:=by rw [aa4,ads];omega
 unfold half;rw [List.set_append_right _ _ oQ,e,ajN,ah3 hi,List.set_cons_zero,aeK,aay hi,afw,adU,adQ]
 rfl
end
end Go.Rep
namespace Go.Proofs.Y
open Go.ay
def bG (u:Rep.Use):List Value:=[.int .i64 u.seg,.int .i64 u.size,.int .i64 u.live]
theorem vP (u:Rep.Use):(bG u).length=3:=rfl
theorem MK:jF prog 45=some (.agg (bG ⟨0,0,0⟩).toArray):=by kernel_rfl
theorem aoS:jF prog 142=some (.map none):=by kernel_rfl
theorem adM:jF prog 50=some (.agg (aA aj.zero32).toArray):=by kernel_rfl
abbrev cO (ps:Nat) (last:Int) (pi:Nat) (uv tv:Value):aG:=pt ps (.cells #[.int .i64 last,ptr pi,uv,tv] 38 (0,0))
def X4 (F:List aG) (ps b2 b3 b4 bm pi pg:Nat) (last:Int) (uv tv:Value) (us:List Rep.Use) (kv:List (aj.Bs×Rep.dY)) (pre:List (Array Value)):List aG:=
 cO ps last pi uv tv::pt b2 (.cells #[ptr ps] 33 (0,0))::pt b4 (.cells #[.map (some bm)] 142 (0,0))::jX bm (λs=>Rep.gZ s (kv.take pre.length)) ::
 aH pi (Tab.mapOf (Rep.puts (kv.take pre.length))) pre.length::aC 45 3 uv (us.flatMap bG)::pt b3 (.cells #[ptr pg] 193 (0,0))::F
section
variable {ps pi pg:Nat}{last:Int}{uv tv:Value}{us:List Rep.Use}{m:aj.Bs->Option Rep.dY}{kv:List (aj.Bs×Rep.dY)}
theorem ahl (hl:Tab.Lists m kv) (hB:B<=13000000) (hkl:kv.length<=13000000) (hks:∀ p∈kv,p.1.length=32/\0<=p.2.place.size/\p.2.place.size<=4294967296) (hu:us.length<=13000000)
  (h:Sat w0 w (cO ps last pi uv tv::aH pi (λ_=>none) 0::gJ pg m B::aC 45 3 uv (us.flatMap bG)::F)) :
  Calls prog 116 #[ptr ps,.agg #[ptr pg]] w (aP λ_ w'=>Sat w0 w' (cO ps last pi uv tv::aH pi (Tab.mapOf (Rep.puts kv)) kv.length::gJ pg m B::aC 45 3 uv ((us.map (Rep.upd kv)).flatMap bG)::F)):=by
 have Hl:=uQ hl;have HB:=uQ hB;have mG:=uQ hkl;have iK:=uQ hks;have Hu:=uQ hu;have Hlen:=uQ (show ∀ u∈us,(bG u).length=3 from λu _=>rfl);clear hl hB hkl hks hu;have hmm:=@run_makeMap prog;refine WS func116 rfl ?_;simp only [ntmps116,abn,aep,aeL,Nat.reduceAdd,Nat.reduceSub,Array.replicate_succ,Array.replicate_zero,List.push_toArray,List.append_toArray,aeu,aeI];go_wp2_with (with_reducible apply fD);refine ⟨fE h ak ak ?_⟩;intro b2 w2 h2;go_wp2_with (with_reducible apply fD);refine ⟨fE h2 ak ak ?_⟩;intro b3 w3 h3;have YB:=ZE h3;go_wp2_with (with_reducible apply fB);refine ⟨eF aoS YB rfl ?_⟩;intro b4 w4 h4;generalize w3.heap.size=bm at *
 go_wp2_with (first
  |((with_reducible refine dh ⟨?_⟩);refine gq h4 ah ak ah cZ bI au ah ?_;intro w5 h5)
  |((with_reducible refine bP ⟨?_⟩);refine fZ h5 ah bJ bI ak au ?_))
 refine (afe h5).mono ?_;rintro ee w6 ⟨v,rfl,bA,rfl,h6⟩;go_wp2_with fail
 have h7:Sat w0 w6 (gJ pg m B::pt bA (.cells #[ptr pg] 188 (0,0))::cO ps last pi uv tv::pt b2 (.cells #[ptr ps] 33 (0,0))::pt b4 (.cells #[.map (some bm)] 142 (0,0))::jX bm (λ_=>0) ::
   aH pi (λ_=>none) 0::aC 45 3 uv (us.flatMap bG)::pt b3 (.cells #[ptr pg] 193 (0,0))::F):=h6.sb
 clear h h2 h3 YB h4 h5 h6 hmm;refine adG (gf:=192) (lb:=#[ptr bA]) ah (λargs w=>by kernel_rfl) (afd HB.o Hl.o) ?_ (X4 F ps b2 b3 b4 bm pi pg last uv tv us kv) h7 ?_ ?_
 ·intro x hx;obtain ⟨p,_,rfl⟩:=abL.1 hx
  rfl
 ·clear h7;intro l pre x post U W hkv hS T hT;obtain ⟨i,hi⟩:∃ i,i=pre.length:=⟨_,rfl⟩;have hlt:i<kv.length:=by
   have:=aey List.length hkv;rw [aa4,aaL,aep]at this;omega
  obtain ⟨⟨k,y⟩,hy⟩:∃ p,kv[i]?=some p:=⟨_,aay hlt⟩;obtain rfl:x=zO (k,y):=by
   have e1:(kv.map zO)[i]?=some (zO (k,y)):=by rw [adW,hy];rfl
   rw [hkv,hi,aeh (abl _),ajN,List.getElem?_cons_zero]at e1;exact ai2 e1
  have hmem:=abA hy;obtain ⟨Fg,hs0,hs1⟩:=iK.o _ hmem;have htk:kv.take (i+1)=kv.take i++[(k,y)]:=by rw [aeK,hy,afw]
  have hil:(pre++[zO (k,y)]).length=i+1:=by rw [aaL,hi];rfl
  have eG:=uQ htk;have kH:=uQ hil;have Hi:=uQ hi;have bT:=uQ hlt;have o9:=uQ Fg;have Hs:=uQ (And.intro hs0 hs1)
  have hS0:Sat w0 W (cO ps last pi uv tv::pt b2 (.cells #[ptr ps] 33 (0,0))::pt b4 (.cells #[.map (some bm)] 142 (0,0))::jX bm (λs=>Rep.gZ s (kv.take i)) ::
   aH pi (Tab.mapOf (Rep.puts (kv.take i))) i::aC 45 3 uv (us.flatMap bG)::pt b3 (.cells #[ptr pg] 193 (0,0))::(F++U)):=by rw [hi];exact hS
  clear hkv hS hi hlt hy hmem Fg hs0 hs1 htk hil;simp [zO]at hT;subst hT;refine wpIn_seq_k λK hK=>?_;refine vJ ah λK2 hK2=>?_;go_wp2_with (with_reducible apply fB);refine ⟨eF adM hS0 rfl ?_⟩;intro b5 w5 h5;go_wp2_with ((with_reducible refine dh ⟨?_⟩);refine fP (aA k).toArray h5 ah ah (by rw [abn,aX,o9.o];rfl) cZ (by rw [abn,aX,o9.o];kernel_rfl) (by rw [ad6];exact tH _) ?_;intro w6 h6);refine vJ ah λK3 hK3=>?_;go_wp2_with (with_reducible apply fB);refine ⟨eF G7 h6 rfl ?_⟩;intro b6 w7 h7;go_wp2_with ((with_reducible refine dh ⟨?_⟩);refine fP (fM y).toArray h7 ah ah ah cZ au ah ?_;intro w8 h8)
  -- the body
  refine ⟨pt b6 (.cells (fM y).toArray 191 (0,0))::pt b5 (.cells (aA k).toArray 50 (0,0))::cO ps last pi uv tv::pt b2 (.cells #[ptr ps] 33 (0,0))::pt b4 (.cells #[.map (some bm)] 142 (0,0))::jX bm (λs=>Rep.gZ s (kv.take i)) ::
   aH pi (Tab.mapOf (Rep.puts (kv.take i))) i::aC 45 3 uv (us.flatMap bG)::pt b3 (.cells #[ptr pg] 193 (0,0))::F,h8,?_⟩
  clear h8 h7 h6 h5 hS0;intro U' w9 h9
  have h10:Sat w0 w9 (pt b6 (.cells (fM y).toArray 191 (0,0))::pt b5 (.cells (aA k).toArray 50 (0,0))::cO ps last pi uv tv::pt b2 (.cells #[ptr ps] 33 (0,0))::pt b4 (.cells #[.map (some bm)] 142 (0,0))::jX bm (λs=>Rep.gZ s (kv.take i)) ::
   aH pi (Tab.mapOf (Rep.puts (kv.take i))) i::aC 45 3 uv (us.flatMap bG)::pt b3 (.cells #[ptr pg] 193 (0,0))::(F++U')):=h9
  clear h9;have f0:w9.cell? ⟨b6,0,none⟩=some (.int .i64 y.tag):=h10.cellP aU 0 rfl;refine wpIn_block (wpIn_seq_k λK4 hK4=>wpIn_seq_k λK5 hK5=>vJ ah λK6 hK6=>?_);by_cases ht:y.tag=0
  ·have hb:(y.tag==0)=true:=ai5.2 ht;have Ew:=uQ (show Tab.mapOf (Rep.puts (kv.take (i+1)))=Tab.put (Tab.mapOf (Rep.puts (kv.take i))) k y.place by rw [eG.o,Rep.abx,acg ht,Tab.QG]);clear ht;go_wp2_with fail;refine wpIn_cond_true ah ?_;have h11:=h10.drew
   have hG:w9.drew.cell? ⟨b2,0,none⟩=some (ptr ps)/\w9.drew.cell? ⟨ps,1,none⟩=some (ptr pi)/\w9.drew.rangeAt b5 0 (aA k)/\w9.drew.rangeAt b6 1 (aW y.place):=
    ⟨h11.cellP (aS (aS (aS aU))) 0 rfl,h11.cellP (aS (aS aU)) 1 rfl,yP (h11.pick (aS aU)),λj v hj=>by
     refine h11.cellP aU (1+j) ?_;rw [ace,apW];have hj3:j<3:=(abm.1 hj).1;rcases j with _|_|_|j
     ·exact hj
     ·exact hj
     ·exact hj
     ·omega⟩
   refine aly [7] (λw'=>w'.cell? ⟨b2,0,none⟩=some (ptr ps)/\w'.cell? ⟨ps,1,none⟩=some (ptr pi)/\w'.rangeAt b5 0 (aA k)/\w'.rangeAt b6 1 (aW y.place)) ah au λK7 hK7=>?_;refine rt 0 (h:=?_);refine rP 1 ?_ (y:=dW);refine rP 2 ?_ (y:=bY);refine rt 3 (h:=?_);refine gK 4 ak au bV (jh (b:=b5) (o:=0) (aA k) ah underlying50 rfl (by rw [aX,o9.o];kernel_rfl) (λw hw=>hw.2.2.1)) aQ gQ ?_;refine rP 5 ?_ (y:=bY);refine gK 6 ak au bV (jh (b:=b6) (o:=1) (aW y.place) ah underlying94 rfl au (λw hw=>hw.2.2.2)) aQ gQ ?_;clear hG
   have hp:=KG (B:=i) (p:=pi) (by have:=bT.o;have:=mG.o;omega) o9.o y.place (h11.sb:Sat w0 w9.drew (aH pi (Tab.mapOf (Rep.puts (kv.take i))) i::pt b6 (.cells (fM y).toArray 191 (0,0))::pt b5 (.cells (aA k).toArray 50 (0,0))::pt b2 (.cells #[ptr ps] 33 (0,0))::pt b4 (.cells #[.map (some bm)] 142 (0,0))::jX bm (λs=>Rep.gZ s (kv.take i))::cO ps last pi uv tv::aC 45 3 uv (us.flatMap bG)::pt b3 (.cells #[ptr pg] 193 (0,0))::(F++U')));clear h10 h11 f0;refine bW 7 ak au (λK' hK'=>?_)
   (refine wL au ak ak ak ?_)
   refine hp.mono ?_;rintro ee iH ⟨v,rfl,h11⟩;refine hK' _ _ (.inl rfl) ?_;clear hK' hp;refine dH au ?_;rw [<-Ew.o]at h11
   have h12:Sat w0 iH (pt b6 (.cells (fM y).toArray 191 (0,0))::pt b5 (.cells (aA k).toArray 50 (0,0))::pt b2 (.cells #[ptr ps] 33 (0,0))::pt b4 (.cells #[.map (some bm)] 142 (0,0))::jX bm (λs=>Rep.gZ s (kv.take i))::cO ps last pi uv tv ::
    aH pi (Tab.mapOf (Rep.puts (kv.take (i+1)))) (i+1)::aC 45 3 uv (us.flatMap bG)::pt b3 (.cells #[ptr pg] 193 (0,0))::(F++U')):=h11.sb
   clear h11;go_wp2_with fail;refine wpIn_seq_k λK8 hK8=>?_;refine vJ ah λK9 hK9=>?_;go_wp2_with ((with_reducible refine bP ⟨?_⟩);refine iQ h12 ah (aU (A:=pt b6 (.cells (fM y).toArray 191 (0,0)))) underlying191 rfl au ?_);refine (Xg y h12).mono ?_;rintro ee jM ⟨v,rfl,rfl,h13⟩;clear h12;by_cases hc:Rep.counts y=true
   ·have hlv:(λs=>Rep.gZ s (kv.take (i+1)))=λs=>if s=y.place.seg then Rep.gZ y.place.seg (kv.take i)+y.place.size else Rep.gZ s (kv.take i):=by
     funext s
     rw [eG.o,Rep.FT];by_cases e:s=y.place.seg
     ·subst e;simp [hc]
     ·simp only [hc,true_and,abj e];rw [abj (λh=>e h.symm),Int.add_zero]
    have Hlv:=uQ hlv;have hlk:=JK y.place.seg (h13.pick (aS (aS (aS (aS aU)))));obtain ⟨kT,hup,iM⟩:=Qi y.place.seg (Rep.gZ y.place.seg (kv.take i)+y.place.size) (h13.pick (aS (aS (aS (aS aU)))));obtain ⟨q1,q2⟩:=Rep.Qv y.place.seg (b:=4294967296) aN (kv.take i) λp hp=>(iK.o p (aeP hp)).2;have q3:(kv.take i).length<=13000000:=adt (apE i kv) mG.o;have q4:=Hs.o;have hwa:IntKind.i64.wrap (Rep.gZ y.place.seg (kv.take i)+y.place.size)=Rep.gZ y.place.seg (kv.take i)+y.place.size:=adr _ oQ;have hwb:wrap64 (Rep.gZ y.place.seg (kv.take i)+y.place.size)=Rep.gZ y.place.seg (kv.take i)+y.place.size:=ahJ _ oQ;clear q1 q2 q3 q4 hlv;have e0:jM.cell? ⟨b4,0,none⟩=some (.map (some bm)):=h13.cellP (aS (aS (aS aU))) 0 rfl;have e1:jM.cell? ⟨b6,1,none⟩=some (.int .i64 y.place.seg):=h13.cellP aU 1 rfl;have e2:jM.cell? ⟨b6,3,none⟩=some (.int .i64 y.place.size):=h13.cellP aU 3 rfl
    rw [hc];clear h13 hc;go_wp2_with fail;refine wpIn_cond_true ah ?_;refine vJ ah λK10 hK10=>?_;go_wp2_with fail;rw [<-Hlv.o]at iM;refine ⟨trivial,?_⟩
    have h15:Sat w0 kT (cO ps last pi uv tv::pt b2 (.cells #[ptr ps] 33 (0,0))::pt b4 (.cells #[.map (some bm)] 142 (0,0))::jX bm (λs=>Rep.gZ s (kv.take (i+1))) ::
     aH pi (Tab.mapOf (Rep.puts (kv.take (i+1)))) (i+1)::aC 45 3 uv (us.flatMap bG)::pt b3 (.cells #[ptr pg] 193 (0,0))::(F++U')):=iM.sb
    rw [<-kH.o]at h15;exact h15
   ·have hlv:(λs=>Rep.gZ s (kv.take (i+1)))=λs=>Rep.gZ s (kv.take i):=by
     funext s
     rw [eG.o,Rep.FT,abj (λh=>hc h.1),Int.add_zero]
    have Hlv:=uQ hlv;rw [ap8]at hc;rw [hc];clear hlv hc;go_wp2_with fail;refine wpIn_cond_false ah ?_;refine wpIn_skip ?_;go_wp2_with fail;rw [<-Hlv.o]at h13;refine ⟨trivial,?_⟩
    have h15:Sat w0 jM (cO ps last pi uv tv::pt b2 (.cells #[ptr ps] 33 (0,0))::pt b4 (.cells #[.map (some bm)] 142 (0,0))::jX bm (λs=>Rep.gZ s (kv.take (i+1))) ::
     aH pi (Tab.mapOf (Rep.puts (kv.take (i+1)))) (i+1)::aC 45 3 uv (us.flatMap bG)::pt b3 (.cells #[ptr pg] 193 (0,0))::(F++U')):=h13.sb
    rw [<-kH.o]at h15;exact h15
  ·have hb:(y.tag==0)=false:=by rw [adX];exact ht
   have Ew:=uQ (show Tab.mapOf (Rep.puts (kv.take (i+1)))=Tab.mapOf (Rep.puts (kv.take i)) by rw [eG.o,Rep.abx,abj ht]);clear ht;go_wp2_with fail;refine wpIn_cond_false ah ?_;refine wpIn_skip ?_;go_wp2_with fail;rw [<-Ew.o]at h10;have h11:=aH.mono (ai7 i) (h10.pick (aS (aS (aS (aS (aS (aS aU)))))))
   have h12:Sat w0 w9 (pt b6 (.cells (fM y).toArray 191 (0,0))::pt b5 (.cells (aA k).toArray 50 (0,0))::pt b2 (.cells #[ptr ps] 33 (0,0))::pt b4 (.cells #[.map (some bm)] 142 (0,0))::jX bm (λs=>Rep.gZ s (kv.take i))::cO ps last pi uv tv ::
    aH pi (Tab.mapOf (Rep.puts (kv.take (i+1)))) (i+1)::aC 45 3 uv (us.flatMap bG)::pt b3 (.cells #[ptr pg] 193 (0,0))::(F++U')):=h11.sb
   clear h10 h11 f0;refine wpIn_seq_k λK8 hK8=>?_;refine vJ ah λK9 hK9=>?_;go_wp2_with ((with_reducible refine bP ⟨?_⟩);refine iQ h12 ah (aU (A:=pt b6 (.cells (fM y).toArray 191 (0,0)))) underlying191 rfl au ?_);refine (Xg y h12).mono ?_;rintro ee jM ⟨v,rfl,rfl,h13⟩;clear h12;by_cases hc:Rep.counts y=true
   ·have hlv:(λs=>Rep.gZ s (kv.take (i+1)))=λs=>if s=y.place.seg then Rep.gZ y.place.seg (kv.take i)+y.place.size else Rep.gZ s (kv.take i):=by
     funext s
     rw [eG.o,Rep.FT];by_cases e:s=y.place.seg
     ·subst e;simp [hc]
     ·simp only [hc,true_and,abj e];rw [abj (λh=>e h.symm),Int.add_zero]
    have Hlv:=uQ hlv;have hlk:=JK y.place.seg (h13.pick (aS (aS (aS (aS aU)))));obtain ⟨kT,hup,iM⟩:=Qi y.place.seg (Rep.gZ y.place.seg (kv.take i)+y.place.size) (h13.pick (aS (aS (aS (aS aU)))));obtain ⟨q1,q2⟩:=Rep.Qv y.place.seg (b:=4294967296) aN (kv.take i) λp hp=>(iK.o p (aeP hp)).2;have q3:(kv.take i).length<=13000000:=adt (apE i kv) mG.o;have q4:=Hs.o;have hwa:IntKind.i64.wrap (Rep.gZ y.place.seg (kv.take i)+y.place.size)=Rep.gZ y.place.seg (kv.take i)+y.place.size:=adr _ oQ;have hwb:wrap64 (Rep.gZ y.place.seg (kv.take i)+y.place.size)=Rep.gZ y.place.seg (kv.take i)+y.place.size:=ahJ _ oQ;clear q1 q2 q3 q4 hlv;have e0:jM.cell? ⟨b4,0,none⟩=some (.map (some bm)):=h13.cellP (aS (aS (aS aU))) 0 rfl;have e1:jM.cell? ⟨b6,1,none⟩=some (.int .i64 y.place.seg):=h13.cellP aU 1 rfl;have e2:jM.cell? ⟨b6,3,none⟩=some (.int .i64 y.place.size):=h13.cellP aU 3 rfl
    rw [hc];clear h13 hc;go_wp2_with fail;refine wpIn_cond_true ah ?_;refine vJ ah λK10 hK10=>?_;go_wp2_with fail;rw [<-Hlv.o]at iM;refine ⟨trivial,?_⟩
    have h15:Sat w0 kT (cO ps last pi uv tv::pt b2 (.cells #[ptr ps] 33 (0,0))::pt b4 (.cells #[.map (some bm)] 142 (0,0))::jX bm (λs=>Rep.gZ s (kv.take (i+1))) ::
     aH pi (Tab.mapOf (Rep.puts (kv.take (i+1)))) (i+1)::aC 45 3 uv (us.flatMap bG)::pt b3 (.cells #[ptr pg] 193 (0,0))::(F++U')):=iM.sb
    rw [<-kH.o]at h15;exact h15
   ·have hlv:(λs=>Rep.gZ s (kv.take (i+1)))=λs=>Rep.gZ s (kv.take i):=by
     funext s
     rw [eG.o,Rep.FT,abj (λh=>hc h.1),Int.add_zero]
    have Hlv:=uQ hlv;rw [ap8]at hc;rw [hc];clear hlv hc;go_wp2_with fail;refine wpIn_cond_false ah ?_;refine wpIn_skip ?_;go_wp2_with fail;rw [<-Hlv.o]at h13;refine ⟨trivial,?_⟩
    have h15:Sat w0 jM (cO ps last pi uv tv::pt b2 (.cells #[ptr ps] 33 (0,0))::pt b4 (.cells #[.map (some bm)] 142 (0,0))::jX bm (λs=>Rep.gZ s (kv.take (i+1))) ::
     aH pi (Tab.mapOf (Rep.puts (kv.take (i+1)))) (i+1)::aC 45 3 uv (us.flatMap bG)::pt b3 (.cells #[ptr pg] 193 (0,0))::(F++U')):=h13.sb
    rw [<-kH.o]at h15;exact h15
 ·intro D w8 h8
  have h9:Sat w0 w8 (gJ pg m B::pt bA (.cells #[ptr pg] 188 (0,0))::cO ps last pi uv tv::pt b2 (.cells #[ptr ps] 33 (0,0))::pt b4 (.cells #[.map (some bm)] 142 (0,0))::jX bm (λs=>Rep.gZ s kv) ::
   aH pi (Tab.mapOf (Rep.puts kv)) kv.length::aC 45 3 uv (us.flatMap bG)::pt b3 (.cells #[ptr pg] 193 (0,0))::(F++[pt D (.deferred (some []))])):=by
   have q:=h8;unfold X4 at q;rw [aa4,aeo]at q;exact q
  have hA:Sat w0 w8 (pt D (.deferred (some []))::gJ pg m B::pt bA (.cells #[ptr pg] 188 (0,0))::cO ps last pi uv tv::pt b2 (.cells #[ptr ps] 33 (0,0))::pt b4 (.cells #[.map (some bm)] 142 (0,0))::jX bm (λs=>Rep.gZ s kv) ::
   aH pi (Tab.mapOf (Rep.puts kv)) kv.length::aC 45 3 uv (us.flatMap bG)::pt b3 (.cells #[ptr pg] 193 (0,0))::F):=
   Sat.IX (L:=gJ pg m B::pt bA (.cells #[ptr pg] 188 (0,0))::cO ps last pi uv tv::pt b2 (.cells #[ptr ps] 33 (0,0))::pt b4 (.cells #[.map (some bm)] 142 (0,0))::jX bm (λs=>Rep.gZ s kv) ::
    aH pi (Tab.mapOf (Rep.puts kv)) kv.length::aC 45 3 uv (us.flatMap bG)::pt b3 (.cells #[ptr pg] 193 (0,0))::F) (R:=[pt D (.deferred (some []))]) h9
  clear h7 h8 h9;have hB2:Sat w0 w8 (aC 45 3 uv ((Rep.half kv us 0).flatMap bG)::cO ps last pi uv tv::pt b2 (.cells #[ptr ps] 33 (0,0))::pt b4 (.cells #[.map (some bm)] 142 (0,0))::jX bm (λs=>Rep.gZ s kv)::pt D (.deferred (some []))::aH pi (Tab.mapOf (Rep.puts kv)) kv.length::gJ pg m B::F):=hA.sb;clear hA;obtain ⟨ua,uc,rfl⟩:=jK (l:=Rep.half kv us 0) (f:=bG) (k:=3) (λu _=>rfl) (Sat.rd hB2) aN;rw [Rep.PG]at hB2;go_wp2_with ((with_reducible refine bP ⟨?_⟩);refine fZ hB2 ah bJ bI ak au ?_)
  go_loopg [42] us.length (λg iq wr=>∃ i:Nat,g=us.length-i/\i<=us.length/\iq=.int .i64 i /\
   Sat w0 wr (aC 45 3 (.slice ua us.length uc) ((Rep.half kv us i).flatMap bG)::cO ps last pi (.slice ua us.length uc) tv::pt b2 (.cells #[ptr ps] 33 (0,0))::pt b4 (.cells #[.map (some bm)] 142 (0,0))::jX bm (λs=>Rep.gZ s kv)::pt D (.deferred (some []))::aH pi (Tab.mapOf (Rep.puts kv)) kv.length::gJ pg m B::F))
  case atStart=>exact ⟨0,rfl,aea _,rfl,hB2⟩
  case round=>
   obtain ⟨i,rfl,hi,rfl,hS⟩:=hrel;clear hB2;by_cases hlt:i<us.length;rotate_left
   ·obtain rfl:i=us.length:=by omega
    have c1:¬ (us.length:Int)<(us.length:Int):=oQ;rw [Rep.ah7]at hS;clear hlt hi;go_wp2_with fail;refine ag7 rfl (hS.pick (aS (aS (aS (aS (aS aU)))))) (λw=>results_none rfl _ _ _) ?_;intro w9 h9;exact ⟨_,rfl,h9.sb⟩
   have c1:(i:Int)<(us.length:Int):=oQ;have hwi:IntKind.i64.wrap ((i:Int)+1)=(i:Int)+1:=adr _ (by have:=Hu.o;omega);obtain ⟨u,hu⟩:∃ u,us[i]?=some u:=⟨_,aay hlt⟩;have hx:(Rep.half kv us i)[i]?=some u:=Rep.ah8 hu;have xO:=uQ (SI (f:=bG) (k:=3) (o:=2) (x':=Rep.upd kv u) (vs:=[.int .i64 (Rep.gZ u.seg kv)]) (λu _=>rfl) hx ah (by show 2+1<=3;decide));rw [Rep.ah9 hu]at xO;have hrl:((Rep.half kv us i).flatMap bG).length=3*us.length:=by rw [jy (k:=3) (f:=bG) λu _=>rfl,Rep.PG]
   obtain ⟨bk,off,c',hsv,hcell⟩:=jd (f:=bG) (k:=3) (λu _=>rfl) (Sat.rd hS) hx aN;rw [Rep.PG]at hsv;cases hsv;rcases Sat.lC hS with ⟨e,_⟩|⟨g',n',cap',cs',e,_⟩
   ·cases e
   obtain rfl:off=0:=by injection e with e1;injection e1 with e2;injection e2
   obtain ⟨g',rfl⟩:∃ g,g=bk:=⟨_,rfl⟩;simp only [ad8]at hcell;have bT:=uQ hlt;clear hlt hi hu hx
   go_wp2_with (first
    |((with_reducible refine bP ⟨?_⟩);refine iR (o:=i*3) (bG u) ah hcell underlying45 rfl au ?_)
    |(with_reducible apply fB))
   refine ⟨eF MK hS rfl ?_⟩;intro b8 w9 jW;go_wp2_with ((with_reducible refine dh ⟨?_⟩);refine fP (bG u).toArray jW ah ah ah cZ au ah ?_;intro w10 fK);have hSd:=fK.drew
   have hG:w10.drew.cell? ⟨b2,0,none⟩=some (ptr ps)/\w10.drew.cell? ⟨ps,2,none⟩=some (.slice (some ⟨g',0,none⟩) us.length uc)/\w10.drew.cell? ⟨b4,0,none⟩=some (.map (some bm))/\w10.drew.cell? ⟨b8,0,none⟩=some (.int .i64 u.seg) /\
     (Instr.lookup 142 (.map (some bm)) (.int .i64 u.seg) false).run prog w10.drew=.ok (.int .i64 (Rep.gZ u.seg kv)) w10.drew:=
    ⟨hSd.cellP (aS (aS (aS aU))) 0 rfl,hSd.cellP (aS (aS aU)) 2 rfl,hSd.cellP (aS (aS (aS (aS aU)))) 0 rfl,hSd.cellP aU 0 rfl,JK u.seg (hSd.pick (aS (aS (aS (aS (aS aU))))))⟩
   clear hS jW hcell;refine dN [9,10,11] (λw'=>w'.cell? ⟨b2,0,none⟩=some (ptr ps)/\w'.cell? ⟨ps,2,none⟩=some (.slice (some ⟨g',0,none⟩) us.length uc)/\w'.cell? ⟨b4,0,none⟩=some (.map (some bm))/\w'.cell? ⟨b8,0,none⟩=some (.int .i64 u.seg)/\(Instr.lookup 142 (.map (some bm)) (.int .i64 u.seg) false).run prog w'=.ok (.int .i64 (Rep.gZ u.seg kv)) w') au ?_;refine rt 0 (h:=?_);refine rP 1 ?_ (y:=dW);refine rP 2 ?_ (y:=bY);refine rt 3 (h:=?_);refine rP 4 ?_ (y:=aZ);refine rt 5 (h:=?_);refine rP 6 ?_ (y:=bY);refine rt 7 (h:=?_);refine rt 8 (h:=?_);refine rP 9 ?_ (y:=jJ);refine rP 10 ?_ (y:=bY);clear hG;refine bW 11 ak au (λK' hK'=>?_);refine Jl (vs:=[.int .i64 (Rep.gZ u.seg kv)]) (i*3+2) hSd ak ak rfl (ku cZ) (by rw [hrl];have:=bT.o;show i*3+2+1<=_;omega) au ah ?_;intro w12 mM;refine hK' _ _ (.inl rfl) ?_;clear hK' hSd fK;refine dH au ?_
   rw [<-xO.o]at mM;go_wp2_with fail
   go_roundg (us.length-(i+1))
   case measure=>have:=bT.o;omega
   case rel=>exact ⟨i+1,rfl,bT.o,by first|rfl|go_num,mM.sb⟩
end
end Go.Proofs.Y
namespace Go.Rep
open Go.aj (Bs dD)
def yw (l:List dD):Bool:=match l.getLast? with
 |some f=>f.e.tag==2
 |none=>false
abbrev Told:Type:=Int->Bs×Int
def split (bt:Told) (ns:List Int):Nat->Nat×Int
 |0=>(0,0)
 |i+1=>if (bt (ns.getD i 0)).2≠0 then (0,(bt (ns.getD i 0)).2) else if (aj.scan (bt (ns.getD i 0)).1).2.2=0/\yw (aj.scan (bt (ns.getD i 0)).1).1=true then (i+1,0) else split bt ns i
theorem TK (bt:Told) (ns:List Int):∀ i,(split bt ns i).1<=i
 |0=>abl 0
 |i+1=>by
  have:=TK bt ns i;unfold split;split
  ·exact aea _
  split
  ·exact abl _
  ·omega
structure dJ where
 what:Int
 seg:Int
 at_:Int
def dJ.zero:dJ:=⟨0,0,0⟩
def fault (s:Int) (at_:Nat):dJ:=if at_=0 then ⟨1,s,0⟩ else ⟨2,s,at_⟩
def bad (bt:Told):List Int->Option (dJ×Int)
 |[]=>none
 |s::l=>if (bt s).2≠0 then some (dJ.zero,(bt s).2) else if (aj.scan (bt s).1).2.2≠0 then some (fault s (aj.scan (bt s).1).2.1,13) else bad bt l
def rowsOf (bt:Told) (l:List Int):List Row:=l.flatMap λs=>(aj.scan (bt s).1).1.map λf=>(s,f)
def jR (bt:Told) (l:List Int):List Use:=l.map λs=>⟨s,((bt s).1.length:Int),0⟩
theorem I9 (bt:Told):∀ (l k:List Int),bad bt l=none->bad bt (l++k)=bad bt k
 |[],_,_=>rfl
 |s::l,k,h=>by
  unfold bad at h;rw [aeI];show (if (bt s).2≠0 then _ else if (aj.scan (bt s).1).2.2≠0 then _ else bad bt (l++k))=_;split at h
  ·cases h
  ·rename_i h1;rw [abj h1];split at h
   ·cases h
   ·rename_i h2;rw [abj h2];exact I9 bt l k h
theorem afD {bt:Told}{s:Int}{pre post:List Int} (hp:bad bt pre=none) (h:(bt s).2≠0):bad bt (pre++s::post)=some (dJ.zero,(bt s).2):=by
 rw [I9 bt _ _ hp];unfold bad;rw [acg h]
theorem afE {bt:Told}{s:Int}{pre post:List Int} (hp:bad bt pre=none) (h:(bt s).2=0) (h2:(aj.scan (bt s).1).2.2≠0):bad bt (pre++s::post)=some (fault s (aj.scan (bt s).1).2.1,13):=by
 rw [I9 bt _ _ hp];unfold bad;rw [abj (λh3=>h3 h),acg h2]
theorem afC {bt:Told}{s:Int}{pre:List Int} (hp:bad bt pre=none) (h:(bt s).2=0) (h2:(aj.scan (bt s).1).2.2=0):bad bt (pre++[s])=none:=by
 rw [I9 bt _ _ hp];unfold bad;rw [abj (λh3=>h3 h),abj (λh3=>h3 h2)];rfl
theorem ab8 (bt:Told) (l:List Int) (s:Int):rowsOf bt (l++[s])=rowsOf bt l++(aj.scan (bt s).1).1.map λf=>(s,f):=by
 unfold rowsOf;rw [aeB,ael,ajb,adV]
theorem aof (bt:Told) (l:List Int) (s:Int):jR bt (l++[s])=jR bt l++[⟨s,((bt s).1.length:Int),0⟩]:=by
 unfold jR;rw [adU];rfl
end Go.Rep
namespace Go.Proofs.Y
open Go.ay
theorem aov {L:List aG}{b:Nat}{ops:Array Oper}{rest:List Oper}{a:Act}{Q:Exit->Act->World->Prop}{dst:Option Tmp}{t:TypeId}{pos:String}{after:Array Edge}{P:Program}{ty:TypeId}{x y:Operand}{vx vy:Value} (hx:a.eval x=vx) (hy:a.eval y=vy) (hr:∀ w,(Instr.sliceAt ty vx (some vy) none none).run P w=.ok v w)
  (h:wpList P ops Q rest (a.put dst v) w):wpList P ops Q (⟨dst,.slice ty x (some y) none none,t,pos,after,none⟩::rest) a w:=
 aeV rfl λ_ hK=>by
  unfold Oper.wp execOp;simp only [hx,hy,afW,aoC,ad1,hr,adu,aek];exact hK _ _ h
theorem aft {ops:Array Oper}{rest:List Oper}{a:Act}{Q:Exit->Act->World->Prop}{dst:Option Tmp}{t:TypeId}{pos:String}{after:Array Edge}{P:Program}{ty:TypeId}{x y:Operand} (h:Stop (wpList P ops Q (⟨dst,.slice ty x (some y) none none,t,pos,after,none⟩::rest) a w)):wpList P ops Q (⟨dst,.slice ty x (some y) none none,t,pos,after,none⟩::rest) a w:=h.o
theorem O9 (l:Bs) (hr:Ro w0 F (bF 1 bv (aA l))) (hcap:lY bv) (hH:Ro w0 F Half) (hl:l.length<=268435456) (h:Sat w0 w F) :
  Calls prog 15 #[bv] w (aP λv w'=>∃ (fs:List (aj.dD×Value)) (ov:Value),fs.map (·.1)=(aj.scan l).1/\(∀ p∈fs,p.1.e.key.length=32)/\v=.tuple #[ov,.int .i64 (aj.scan l).2.1,errno (aj.scan l).2.2] /\
   Sat w0 w' (aC 54 36 ov (jO fs)::lI fs::F)):=by
 obtain ⟨ba,bn,bc,rfl,hbn,hbc⟩:=hcap;have hln:bn=l.length:=by
  obtain ⟨_,_,_,he,hl',_⟩:=hr w h;cases he;rw [aX,aes]at hl';exact hl'.symm
 subst hln;have hcv:=Lib.run_convert_bytes_const (P:=prog) w 39 5 #[.int .u8 72,.int .u8 79,.int .u8 65,.int .u8 82,.int .u8 68,.int .u8 83,.int .u8 69,.int .u8 71] 8 8 underlying39 underlying5;have hB:Sat w0 (w.alloc (.cells #[.int .u8 72,.int .u8 79,.int .u8 65,.int .u8 82,.int .u8 68,.int .u8 83,.int .u8 69,.int .u8 71] 5 (8,9))) (mrow w.heap.size aj.uj::F):=h.alloc _;simp only [abn,aep,aeL,ad8,Nat.reduceAdd]at hcv;have hmr:bF 1 (.slice (some ⟨w.heap.size,0,none⟩) 8 8) (aA aj.uj) (w.alloc (.cells #[.int .u8 72,.int .u8 79,.int .u8 65,.int .u8 82,.int .u8 68,.int .u8 83,.int .u8 69,.int .u8 71] 5 (8,9))):=by
  refine ⟨_,8,8,rfl,rfl,λj x hj=>⟨_,rfl,?_⟩⟩;rw [rC];have hjl:j<aj.uj.length:=by
   have:=(abm.1 hj).1;rw [aX]at this;exact this
  have hx:=(J6 (l:=aj.uj) hB hjl 0).1;unfold aA at hj;rw [adW,aay hjl]at hj;cases hj;exact hx
 have hpre:=aic l aj.uj ba l.length bc hbn hbc (hr _ hB.drop) _ 8 8 hmr;have Hr:=uQ hr;have HH:=uQ hH;have Hl:=uQ hl;have xI:=uQ (show l.length<=bc/\bc<=9223372036854775807 from ⟨hbn,hbc⟩);have hF:=uQ hB.drop;clear hr hH hl hbn hbc hB hmr;cases hm:decide (l.take aj.uj.length=aj.uj)
 ·have Hf:=uQ (show aj.scan l=([],0,4) by
   unfold aj.scan;have:¬ l.take 8=aj.uj:=of_decide_eq_false hm;rw [abj this])
  rw [hm]at hpre;clear hm;go_enter func15,ntmps15;go_wp2_with fail;refine hpre.mono ?_;rintro e w1 ⟨v,rfl,rfl,rfl⟩;go_wp2
  go_ret3
  refine ⟨_,rfl,[],_,by rw [Hf.o];rfl,by simp,?_,Sat.gB.2 (Sat.emp.2 hF.o)⟩;rw [Hf.o];rfl
 ·have hlm:l.take 8=aj.uj:=ajl hm;have Y7:8<=l.length:=by
   have:=aey List.length hlm;rw [ads]at this;have h8:aj.uj.length=8:=rfl;omega
  have Hf:=uQ (show aj.scan l=aj.oZ l.length (l.drop 8) 8 by
   unfold aj.scan;rw [acg hlm])
  have H8:=uQ Y7;rw [hm]at hpre;obtain ⟨bk,off,rfl⟩:∃ bk off,ba=some ⟨bk,off,none⟩:=by
   obtain ⟨b',o',hb,_⟩:=pI (i:=0) (x:= .int .u8 (l[0]'oQ).toNat) (Hr.o _ hF.o) (by unfold aA;rw [adW,aay oQ];rfl);exact ⟨_,_,hb⟩
  clear hm hlm Y7;go_enter func15,ntmps15;go_wp2_with fail;refine hpre.mono ?_;rintro e w1 ⟨v,rfl,rfl,rfl⟩;go_wp2_with fail
  go_loopg [6,5] (l.length-8) (λg aq ov wr=>∃ (at_:Nat) (fs:List (aj.dD×Value)),g=l.length-at_/\8<=at_/\at_<=l.length/\9*fs.length<=at_/\aq=.int .i64 at_/\(∀ p∈fs,p.1.e.key.length=32) /\
   (∃ k,l.length-at_<=k/\aj.scan l=(fs.map (·.1)++(aj.oZ k (l.drop at_) at_).1,(aj.oZ k (l.drop at_) at_).2)) /\
   Sat w0 wr (aC 54 36 ov (jO fs)::lI fs::F))
  case atStart=>
   exact ⟨8,[],rfl,abl _,H8.o,aea _,rfl,by simp,⟨l.length,by omega,by rw [Hf.o];rfl⟩,Sat.gB.2 (Sat.emp.2 hF.o)⟩
  case round=>
   obtain ⟨at_,fs,rfl,h8,hat,hfl,rfl,hfk,⟨k,hk,hsc⟩,hS⟩:=hrel;have Hk:=uQ hk;have vZ:=uQ hsc;have qW:=uQ hfk;have qV:=uQ (show at_<=l.length/\8<=at_/\9*fs.length<=at_ from ⟨hat,h8,hfl⟩);clear hk hsc hfk h8 hfl;by_cases hlt:at_<l.length
   ·have c1:(at_:Int)<(l.length:Int):=by omega
    have c2:(at_:Int)<=(bc:Int):=by have:=xI.o;omega
    have c3:(l.length:Int)<=(bc:Int):=by have:=xI.o;omega
    have c4:(at_:Int)<=(l.length:Int):=oQ;have c5:(0:Int)<=(at_:Int):=oQ;have c6:¬ bc=at_:=by have:=xI.o;omega
    have hsl:∀ w,(Instr.sliceAt 39 (.slice (some ⟨bk,off,none⟩) l.length bc) (some (.int .i64 at_)) none none).run prog w=.ok (.slice (some ⟨bk,off+at_,none⟩) (l.length-at_) (bc-at_)) w:=by
     intro w;go_simp
    have hrd:=uQ (λw hw=>abH (Hr.o w hw) at_ l.length (bc-at_) hat (abl _));rw [aeo]at hrd;have bT:=uQ hlt;clear hlt hat;go_wp2_with ((with_reducible refine aft ⟨?_⟩);refine aov ah ah hsl ?_);refine (Yo (l.drop at_) (Ro.os hrd.o) ⟨_,_,_,rfl,by have:=xI.o;omega,by have:=xI.o;omega⟩ (Ro.os HH.o) (by rw [ad3];have:=Hl.o;omega) hS).mono ?_;rintro ee w2 ⟨v,rfl,da,dc,rfl,hS2⟩;have VH:=uQ (aj.RH (l.drop at_));obtain ⟨k,rfl⟩:∃ k',k=k'+1:=⟨k-1,by have:=Hk.o;have:=bT.o;omega⟩
    have qZ:=uQ (show l.drop at_≠[] by
     intro h0;have:=aey List.length h0;rw [ad3]at this;have:=bT.o;simp only [aeL]at *
     omega)
    by_cases hz:(aj.read (l.drop at_)).2.2=0
    ·have dB:=uQ (aj.abK hz)
     have NT:=uQ (show aj.scan l=(fs.map (·.1)++(⟨(aj.read (l.drop at_)).1,at_,(aj.read (l.drop at_)).2.1⟩::(aj.oZ k ((l.drop at_).drop (aj.read (l.drop at_)).2.1) (at_+(aj.read (l.drop at_)).2.1)).1),(aj.oZ k ((l.drop at_).drop (aj.read (l.drop at_)).2.1) (at_+(aj.read (l.drop at_)).2.1)).2) by
      rw [vZ.o];simp only [aj.oZ];rw [abj qZ.o,abj (λh=>h hz)])
     have hN:=dB.o.2.1;rw [ad3]at hN;rw [apZ]at NT;generalize aj.read (l.drop at_)=r at *
     obtain ⟨e,n,er⟩:=r;obtain rfl:er=0:=hz;have Hn:=uQ (show 9<=n/\n<=l.length-at_ from ⟨dB.o.1,hN⟩);have dS:=uQ (show e.key.length=32 from VH.o);clear hN vZ VH dB
     try clear hz
     simp only at NT hS2;have hw:IntKind.i64.wrap ((at_:Int)+(n:Int))=((at_+n:Nat):Int):=by
      rw [adr _ (by have:=Hn.o;have:=Hl.o;omega)];omega
     have hlen:(jO fs).length<=2147483648:=by
      rw [Ye qW.o];have:=qV.o;have:=Hl.o;omega
     go_wp2_with (first
      |((with_reducible refine tC ⟨?_⟩);refine uM aQ ?_;intro bE wE hE)|((with_reducible refine qE ⟨?_⟩);first|(refine kM aQ ah ah fQ fV sQ ?_;intro wS hS)|(refine kM (e:=aj.zeroE) (da:=none) (dn:=0) (dc:=0) aQ ah ah rfl fV sQ ?_;intro wS hS))|((with_reducible refine EK ⟨?_⟩);refine GV aQ ah bJ fQ ?_)
      |((with_reducible refine Wu ⟨?_⟩);refine adz ah ah ah (λw=>amb e dS.o da _ dc at_ n w) ?_)
      |((with_reducible refine nR ⟨?_⟩);refine nN (e:=54) (sz:=36) (eX:=80) au aQ ak (cs:=gV ⟨e,at_,n⟩ (.slice da e.data.length dc)) rfl (pq _ _ dS.o) bI ?_;intro bN wN hN)
      |((with_reducible refine lH ⟨?_⟩);refine oh 54 36 80 au aQ ah ah bJ bJ ((pq _ _ dS.o).trans aN) (abl 1) (EW _ _ _ _) hlen (by rw [pq _ _ dS.o];decide) aN rfl ?_;intro bA nA cA wA hA))
     go_roundg (l.length-(at_+n))
     case measure=>have:=Hn.o;omega
     case rel=>
      refine ⟨at_+n,fs++[(⟨e,at_,n⟩,.slice da e.data.length dc)],rfl,by have:=qV.o;omega,by have:=Hn.o;have:=qV.o;omega,by rw [aaL,aer];have:=qV.o;have:=Hn.o;omega,by first|rfl|go_num,?_,⟨k,by have:=Hn.o;have:=Hk.o;omega,?_⟩,?_⟩
      ·intro p hp;rw [aeg]at hp;rcases hp with hp|hp
       ·exact qW.o p hp
       ·rw [adZ]at hp;subst hp;exact dS.o
      ·rw [NT.o,adU,adQ];rfl
      ·rw [ahv,agB];have e9:jO [((⟨e,at_,n⟩:aj.dD),Value.slice da e.data.length dc)]=(gV ⟨e,at_,n⟩ (.slice da e.data.length dc)).toList:=by
        unfold jO gV;simp
       rw [e9];have h10:Sat w0 wA (bQ (.slice da e.data.length dc) e.data::lI fs::aC 54 36 (.slice (some ⟨bA,0,none⟩) nA cA) (jO fs++(gV ⟨e,at_,n⟩ (.slice da e.data.length dc)).toList)::F):=hA.sb;exact (Sat.star.2 h10).bf
    ·have hfin:=uQ (show aj.scan l=(fs.map (·.1),at_,(aj.read (l.drop at_)).2.2) by
      rw [vZ.o];simp only [aj.oZ];rw [abj qZ.o,acg hz,adV])
     have c9:((aj.read (l.drop at_)).2.2==0)=false:=by rw [adX];exact hz
     clear hz vZ;go_wp2_with (first|((with_reducible refine tC ⟨?_⟩);refine uM aQ ?_;intro bE wE hE)|((with_reducible refine qE ⟨?_⟩);first|(refine kM aQ ah ah fQ fV sQ ?_;intro wS hS)|(refine kM (e:=aj.zeroE) (da:=none) (dn:=0) (dc:=0) aQ ah ah rfl fV sQ ?_;intro wS hS))|((with_reducible refine EK ⟨?_⟩);refine GV aQ ah bJ fQ ?_))
     go_ret3
     refine ⟨_,rfl,fs,u5,by rw [hfin.o],qW.o,?_,Sat.sb aQ⟩;rw [hfin.o];rfl
   ·have c1:¬ (at_:Int)<(l.length:Int):=by omega
    have hfin:=uQ (show aj.scan l=(fs.map (·.1),at_,0) by
     rw [vZ.o,aew oQ];cases k <;> simp [aj.oZ])
    clear hlt hat;go_wp2
    go_ret3
    refine ⟨_,rfl,fs,by rw [hfin.o],λa b hm=>qW.o _ hm,u5,?_,hS⟩;rw [hfin.o];rfl
def dP (f:Rep.dJ):Array Value:=(.int .i64 f.what :: .int .i64 f.seg :: .int .i64 f.at_::(aA aj.zero32++[.string ByteArray.empty])).toArray
theorem nO:jF prog 63=some (.agg (dP Rep.dJ.zero)):=by kernel_rfl
section
variable {ov:Value}
theorem anL {fs:List (aj.dD×Value)} (hk:∀ p∈fs,p.1.e.key.length=32) (h:bF 36 ov (jO fs) w){i:Nat}{p:aj.dD×Value} (hi:fs[i]?=some p) :
  ∃ bk off c,ov=.slice (some ⟨bk,off,none⟩) fs.length c/\w.cell? ⟨bk,off+i*36,none⟩=some (.int .i64 p.1.e.tag):=by
 obtain ⟨bk,off,c,e,hc⟩:=jd (f:=λp:aj.dD×Value=>nT p.1 p.2) (k:=36) (λp hp=>tK p.1 p.2 (hk p hp)) h hi aN;exact ⟨bk,off,c,e,hc 0 _ rfl⟩
theorem ag4 (fs:List (aj.dD×Value)) (hk:∀ p∈fs,p.1.e.key.length=32) (hn:fs.length<=1073741824) (h:bF 36 ov (jO fs) w) :
  Calls prog 155 #[ov] w (aP λv w'=>v=.bool (Rep.yw (fs.map (·.1)))/\w=w'):=by
 cases hfs:fs.getLast? with
 |none=>
  obtain rfl:fs=[]:=ahP.1 hfs;obtain ⟨a,n,c,rfl,hl,_⟩:=h;obtain rfl:n=0:=by have:=hl;simp [jO]at this;omega
  go_enter func155,ntmps155;go_wp2_with fail;go_ret;exact ⟨_,rfl,rfl,rfl⟩
 |some p=>
  have hne:fs≠[]:=by intro e;rw [e]at hfs;cases hfs
  have hlen:0<fs.length:=apO.2 hne;have hi:fs[fs.length-1]?=some p:=by rw [<-aeH];exact hfs
  obtain ⟨bk,off,c,rfl,hc⟩:=anL hk h hi;have He:=uQ (show Rep.yw (fs.map (·.1))=(p.1.e.tag==2) by unfold Rep.yw;rw [aqi,hfs];rfl);rw [He.o];have c1:(fs.length:Int)>0:=oQ;have c2:(0:Int)<(fs.length:Int):=oQ;have w1:IntKind.i64.wrap ((fs.length:Int)-1)=((fs.length-1:Nat):Int):=by rw [adr _ oQ];omega
  have c3:(0:Int)<=((fs.length-1:Nat):Int):=oQ;have c4:((fs.length-1:Nat):Int)<(fs.length:Int):=oQ;clear hfs hne hlen hi h hk hn;generalize fs.length-1=j at *
  go_enter func155,ntmps155;go_wp2_with fail;go_ret;exact ⟨_,rfl,rfl,rfl⟩
end
section
variable {m:aj.Bs->Option Rep.dY}
theorem gJ.mono (hB:B<=B') (h:Sat w0 w (gJ p m B::R)):Sat w0 w (gJ p m B'::R):=by
 obtain ⟨t,sv,⟨ok,is,hb⟩,hS⟩:=gJ.open h;exact gJ.shut ok is (adt hb hB) hS
variable {da:Option Addr}{dn dc:Nat}
theorem EX (f:aj.dD) (dv:Value) (hk:f.e.key.length=32):(gV f dv)[34]?=some (.int .i64 f.at_)/\(gV f dv)[35]?=some (.int .i64 f.size)/\∀ j v,(aA f.e.key)[j]?=some v->(gV f dv)[1+j]?=some v:=by
 have hl:(lZ f.e dv).length=34:=OY _ _ hk;refine ⟨?_,?_,λj v hj=>?_⟩
 ·show (lZ f.e dv++_).toArray[34]?=_;rw [ace,aeh oQ,hl];rfl
 ·show (lZ f.e dv++_).toArray[35]?=_;rw [ace,aeh oQ,hl];rfl
 ·have hj1:=(abm.1 hj).1;have hj2:=hj1;rw [aX,hk]at hj2;show (lZ f.e dv++_).toArray[1+j]?=_;rw [ace,aej oQ,apW];show (aA f.e.key++[dv])[j]?=_;rw [aej hj1];exact hj
theorem anR (s:Int) (f:aj.dD) (hk:f.e.key.length=32) (hB:B<=13000000) (h:Sat w0 w (gJ p m B::F)) :
  Calls prog 115 #[.agg #[ptr p],.int .i64 s,.agg (gV f (.slice da dn dc))] w (aP λ_ w'=>Sat w0 w' (gJ p (Rep.Gw m (s,f)) (B+1)::F)):=by
 have Hk:=uQ hk;have HB:=uQ hB;have e0:(gV f (.slice da dn dc))[0]?=some (.int .i64 f.e.tag):=rfl;obtain ⟨e34,e35,nI⟩:=EX f (.slice da dn dc) hk;clear hk hB;go_enter func115,ntmps115;go_wp2_with (with_reducible apply fD);refine ⟨fE h ak ak ?_⟩;intro b3 w3 h3;go_wp2_with (with_reducible apply fD);refine ⟨fE h3 ak ak ?_⟩;intro b5 w5 h5;clear h h3;have h6:Sat w0 w5 (pt b5 (.cells (gV f (.slice da dn dc)) 54 (0,0))::pt b3 (.cells #[ptr p] 193 (0,0))::gJ p m B::F):=h5;clear h5;have f0:w5.cell? ⟨b5,0,none⟩=some (.int .i64 f.e.tag):=h6.cellP aU 0 e0;by_cases h2:f.e.tag=2
 ·have hb:(f.e.tag==2)=true:=ai5.2 h2;have NG:=uQ (show Rep.Gw m (s,f)=m from acg h2);have h7:=uQ (gJ.mono (ai7 B) (h6.sb:Sat w0 w5 (gJ p m B::F)));clear h2 h6;go_wp2_with fail
  (try simp only [Exit.inBlock,Exit.then]);refine bodyPost_ret (results_none rfl _ _ _) rfl ?_
  exact ⟨_,rfl,by rw [NG.o];exact h7.o⟩
 have hb:(f.e.tag==2)=false:=by rw [adX];exact h2
 have NG:=uQ (show Rep.Gw m (s,f)=Tab.put m f.e.key ⟨f.e.tag,⟨s,f.at_,f.size⟩,Rep.oN m (s,f)⟩ from abj h2);clear h2;have hkr:w5.rangeAt b5 1 (aA f.e.key):=λj v hj=>h6.cellP aU (1+j) (nI j v hj)
 go_wp2_with (first
  |((with_reducible refine bP ⟨?_⟩);refine fZ h6 ah bJ bI ak au ?_)
  |((with_reducible refine bP ⟨?_⟩);refine iR (b:=b5) (o:=1) (aA f.e.key) ah hkr underlying50 rfl zE0 ?_))
 refine (ahN (by have:=HB.o;omega) Hk.o (h6.sb:Sat w0 w5 (gJ p m B::pt b5 (.cells (gV f (.slice da dn dc)) 54 (0,0))::pt b3 (.cells #[ptr p] 193 (0,0))::F))).mono ?_;rintro ee w7 ⟨v,rfl,hv,h7⟩;clear h6 hkr f0;rcases hm:m f.e.key with _|a
 focus
  rw [hm,Option.getD_none,Option.isSome_none]at hv;subst hv;have hf0:Rep.Af m (s,f) = -1:=by unfold Rep.Af;show (match m f.e.key with|some a=>a.first|none=> -1) = -1;rw [hm]
  clear hm;go_wp2_with (with_reducible apply fB);refine ⟨eF G7 h7 rfl ?_⟩;intro b6 w8 h8;go_wp2_with (first|((with_reducible refine dh ⟨?_⟩);refine fP (fM ⟨0,Seg.aV.zero,0⟩).toArray h8 ah ah ah cZ au ah ?_;intro w9 h9)|((with_reducible refine dh ⟨?_⟩);refine gq (cs':=#[.int .i64 0,.int .i64 0,.int .i64 0,.int .i64 0,.int .i64 (-1)]) h9 ah ak ah cZ (by show 4+1<=5;decide) au ah ?_;intro wB hB)|(with_reducible apply bP));refine ⟨?_⟩;have f1:wB.cell? ⟨b5,0,none⟩=some (.int .i64 f.e.tag):=hB.cellP (aS (aS aU)) 0 e0;have f2:wB.cell? ⟨b6,4,none⟩=some (.int .i64 (-1)):=hB.cellP aU 4 rfl;clear h7 h8 h9;by_cases hz:f.e.tag=0
  focus
   have hb0:(f.e.tag==0)=true:=ai5.2 hz;have hE:=uQ (show Rep.oN m (s,f)=s by unfold Rep.oN;rw [hf0];exact acg ⟨hz,by decide⟩);clear hz hf0;go_wp2_with ((with_reducible refine dh ⟨?_⟩);refine gq (cs':=#[.int .i64 0,.int .i64 0,.int .i64 0,.int .i64 0,.int .i64 s]) hB ah ak ah cZ (by show 4+1<=5;decide) au ah ?_;intro wA hA);clear hB f1 f2
  rotate_left
  focus
   have hb0:(f.e.tag==0)=false:=by rw [adX];exact hz
   have hE:=uQ (show Rep.oN m (s,f) = -1 by unfold Rep.oN;rw [hf0];exact abj (λh=>hz h.1));clear hz hf0;go_wp2_with fail;clear f1 f2;have hA:=hB;clear hB
 rotate_left 2
 focus
  rw [hm,apd,Option.isSome_some]at hv;subst hv;have hf0:Rep.Af m (s,f)=a.first:=by unfold Rep.Af;show (match m f.e.key with|some a=>a.first|none=> -1)=a.first;rw [hm]
  obtain ⟨at0,⟨V3,V4,V5⟩,af⟩:=a;have YC:=h7;clear h7 hm;have h7:=YC;clear YC;go_wp2_with (with_reducible apply fB);refine ⟨eF G7 h7 rfl ?_⟩;intro b6 w8 h8;go_wp2_with (first|((with_reducible refine dh ⟨?_⟩);refine fP (fM ⟨at0,⟨V3,V4,V5⟩,af⟩).toArray h8 ah ah ah cZ au ah ?_;intro w9 h9)|(with_reducible apply bP));refine ⟨?_⟩;have f1:w9.cell? ⟨b5,0,none⟩=some (.int .i64 f.e.tag):=h9.cellP (aS (aS aU)) 0 e0;have f2:w9.cell? ⟨b6,4,none⟩=some (.int .i64 af):=h9.cellP aU 4 rfl;clear h7 h8;by_cases hz:f.e.tag=0
  focus
   have hb0:(f.e.tag==0)=true:=ai5.2 hz;by_cases hf:af<0
   focus
    have hE:=uQ (show Rep.oN m (s,f)=s by unfold Rep.oN;rw [hf0];exact acg ⟨hz,hf⟩);clear hz hf0;go_wp2_with ((with_reducible refine dh ⟨?_⟩);refine gq (cs':=#[.int .i64 at0,.int .i64 V3,.int .i64 V4,.int .i64 V5,.int .i64 s]) h9 ah ak ah cZ (by show 4+1<=5;decide) au ah ?_;intro wA hA);clear h9 f1 f2
   rotate_left
   focus
    have hE:=uQ (show Rep.oN m (s,f)=af by unfold Rep.oN;rw [hf0];exact abj (λh=>hf h.2));clear hz hf0;go_wp2_with fail;clear f1 f2;have hA:=h9;clear h9
  rotate_left 2
  focus
   have hb0:(f.e.tag==0)=false:=by rw [adX];exact hz
   have hE:=uQ (show Rep.oN m (s,f)=af by unfold Rep.oN;rw [hf0];exact abj (λh=>hz h.1));clear hz hf0;go_wp2_with fail;clear f1 f2;have hA:=h9;clear h9
 all_goals
  obtain ⟨q0,q1,q2,q3,q4,hE,jW⟩:∃ q0 q1 q2 q3 q4:Int,Hid (Rep.oN m (s,f)=q4)/\Sat w0 _ (pt b6 (.cells #[.int .i64 q0,.int .i64 q1,.int .i64 q2,.int .i64 q3,.int .i64 q4] 191 (0,0))::gJ p m B::pt b5 (.cells (gV f (.slice da dn dc)) 54 (0,0))::pt b3 (.cells #[ptr p] 193 (0,0))::F):=⟨_,_,_,_,_,hE,hA.drew⟩;clear hA;have hG:=And.intro (jW.cellP (aS (aS aU)) 0 e0) (And.intro (jW.cellP (aS (aS aU)) 34 e34) (jW.cellP (aS (aS aU)) 35 e35));refine dN [11,12] (λw'=>w'.cell? ⟨b5,0,none⟩=some (.int .i64 f.e.tag)/\w'.cell? ⟨b5,34,none⟩=some (.int .i64 f.at_)/\w'.cell? ⟨b5,35,none⟩=some (.int .i64 f.size)) au ?_;refine rP 0 ?_ (y:=bY);refine rP 1 ?_ (y:=bY);refine rt 2 (h:=?_);refine rP 3 ?_ (y:=aZ);refine rP 4 ?_ (y:=bY);refine rt 5 (h:=?_);refine rP 6 ?_ (y:=bY);refine rt 7 (h:=?_);refine rp 8 (hy:=yE0) (h:=?_);refine rP 9 ?_ (y:=bY);refine bW 10 ak au (λK hK=>?_)
  refine kQ (cs':=#[.int .i64 f.e.tag,.int .i64 q1,.int .i64 q2,.int .i64 q3,.int .i64 q4]) jW ak ak ah cZ (by show 0+1<=5;decide) au ah ?_;intro w10 fK;have hG2:=And.intro (fK.cellP (aS (aS aU)) 0 e0) (And.intro (fK.cellP (aS (aS aU)) 34 e34) (fK.cellP (aS (aS aU)) 35 e35));refine hK _ _ (.inr (.inl hG2)) ?_;clear hK jW hG hG2;refine rP 11 ?_ (y:=bY);refine bW 12 ak au (λK hK=>?_);refine kQ (cs':=#[.int .i64 f.e.tag,.int .i64 s,.int .i64 f.at_,.int .i64 f.size,.int .i64 q4]) fK ak ak ah cZ (by show 1+3<=5;decide) au ah ?_;intro w12 mM;refine hK _ _ (.inl rfl) ?_;clear hK fK;refine dH au ?_;have uY:Sat w0 w12 (pt b6 (.cells (fM ⟨f.e.tag,⟨s,f.at_,f.size⟩,Rep.oN m (s,f)⟩).toArray 191 (0,0))::gJ p m B::pt b5 (.cells (gV f (.slice da dn dc)) 54 (0,0))::pt b3 (.cells #[ptr p] 193 (0,0))::F):=by
   have:=mM;rw [hE.o];exact this
  clear mM;have hkr:w12.rangeAt b5 1 (aA f.e.key):=λj v hj=>uY.cellP (aS (aS aU)) (1+j) (nI j v hj)
  go_wp2_with (first
   |((with_reducible refine bP ⟨?_⟩);refine iR (b:=b5) (o:=1) (aA f.e.key) ah hkr underlying50 rfl zE0 ?_)
   |((with_reducible refine bP ⟨?_⟩);refine iQ uY ah (aU (A:=pt b6 (.cells (fM ⟨f.e.tag,⟨s,f.at_,f.size⟩,Rep.oN m (s,f)⟩).toArray 191 (0,0)))) underlying191 rfl au ?_)
   |((with_reducible refine bP ⟨?_⟩);refine fZ uY ah bJ bI ak au ?_))
  refine (ak1 (p:=p) (by have:=HB.o;omega) Hk.o ⟨f.e.tag,⟨s,f.at_,f.size⟩,Rep.oN m (s,f)⟩ (uY.sb:Sat w0 w12 (gJ p m B::F))).mono ?_;rintro ee kT ⟨v,rfl,JE⟩;go_wp2_with fail
  go_end0
  exact ⟨_,rfl,by rw [NG.o];exact JE⟩
end
section
variable {P:Program}{L:List aG}{ops:Array Oper}{rest:List Oper}{a:Act}{Q:Exit->Act->World->Prop}
variable {dst:Option Tmp}{t ty T e:TypeId}{pos:String}{after:Array Edge}{x y:Operand}{cs:Array Value}{o n c k cap sz eX:Nat}{ad:Addr}{ys:List Value}
theorem ag0 (sz eX:Nat){K:Act->World->Prop}{E:Prop} (hb:pX P ty e sz eX=true) (hv:a.eval x=.slice (some ⟨b,0,none⟩) k cap) (hy:a.eval y=.slice (some ad) n c)
  (h:Sat w0 w (pt b (.cells cs T (0,0))::F)) (hl:ys.length=n*sz) (hnews:∀ j u,ys[j]?=some u->w.cell? (ad.add j)=some u) (h1:∀ u∈ys,u.oneCell'=true) (hroom:k+n<=cap) (hc:cap*sz<=cs.size)
  (hK:∀ w',Sat w0 w' (pt b (.cells (eU cs (k*sz) ys) T (0,0))::F)->K (a.put dst (.slice (some ⟨b,0,none⟩) (k+n) cap)) w') :
  if Region.wanted ⟨dst,.call { callee:= .builtin .append,args:=#[x,y],argTypes:=#[ty,ty] },t,pos,after,none⟩ (yielded ops a.tmps)=true then
   Oper.wp P ⟨dst,.call { callee:= .builtin .append,args:=#[x,y],argTypes:=#[ty,ty] },t,pos,after,none⟩ a w K Q else E:=by
 rw [acg (mF _ rfl)];obtain ⟨hu,i,z,hi,hz,e1,e2,e3,e4⟩:=xW hb;subst e1;have hle:(k+n)*i.size<=cs.size:=adt (ae4 _ hroom) hc;rw [akH]at hle
 have hr:=run_append_room_cells (P:=P) (w:=w) ty t e i hu hi b 0 k cap ad n c ys hl hnews h1 hroom (λj hj=>by
   rw [ad8,h.cellAt (k*i.size+j) _ (ajI (show k*i.size+j<cs.size by omega))];rfl) (λj hj=>h.pY _)
 rw [ad8]at hr;unfold Oper.wp execOp;simp only [resolve,invoke,builtin,ad1,aek,adu,aeX,ad7,aeF,hv,hy,hr];exact hK _ (Sat.sets ys (k*i.size) h)
theorem adK {vx vy:Value} (hx:a.eval x=vx) (hy:a.eval y=vy) (hr:∀ w,(Instr.sliceAt ty vx (some vy) none none).run P w=.ok v w):Yields P ops ⟨dst,.slice ty x (some y) none none,t,pos,after,none⟩ v a:=
 .inl ⟨mF _ rfl,λw=>by simp only [execOp,hx,hy,afW,aoC,ad1,hr,adu,aek]⟩
theorem amd (sz:Nat){z:Value} (hu:P.underlying ty=some (.slice e)) (hz:jF P e=some z) (hzs:z.cells.size=sz) (h1:z.cells.toList.all (·.oneCell')=true){o:Nat} (hfit:o+sz<=cs.size)
  (h:Sat w0 w (pt b (.cells cs T (0,0))::F)) :
  ∃ w',(Builtin.clear_ #[ty] t #[.slice (some ⟨b,o,none⟩) 1 c]).run P w=.ok (.tuple #[]) w'/\Sat w0 w' (pt b (.cells (eU cs o z.cells.toList) T (0,0))::F):=by
 refine ⟨w.setCells b o z.cells.toList,?_,Sat.sets _ _ h⟩;have hzc:(Builtin.zeroCells z.cells 1).toList=z.cells.toList:=by
  unfold Builtin.zeroCells;simp only [Array.toList_map,Array.toList_range,Nat.one_mul];apply List.ext_getElem yF0;intro i q1 q2;have hi:i<z.cells.size:=by simpa using q2
  simp [ape hi,hi]
 have hst:=run_storeCells_cells (P:=P) b o z.cells.toList 0 w (λj hj=>by
   rw [ai6,h.cellAt (o+j) _ (ajI (show o+j<cs.size by simp at hj;omega))];rfl) (λj hj=>h.pY _) (λu hu=>(ae0.1 h1) u hu)
 simp only [ai6]at hst;simp [Builtin.clear_,afM hu,Lc hz w,hzc,hst]
theorem aoq (sz:Nat){z:Value} (hu:P.underlying ty=some (.slice e)) (hz:jF P e=some z) (hzs:z.cells.size=sz) (h1:z.cells.toList.all (·.oneCell')=true) (hx:a.eval x=.slice (some ⟨b,o,none⟩) 1 c) (hfit:o+sz<=cs.size)
  (h:Sat w0 w (pt b (.cells cs T (0,0))::F)) (hK:∀ w',Sat w0 w' (pt b (.cells (eU cs o z.cells.toList) T (0,0))::F)->wpList P ops Q rest (a.put dst (.tuple #[])) w') :
  wpList P ops Q (⟨dst,.call { callee:= .builtin .clear,args:=#[x],argTypes:=#[ty] },t,pos,after,none⟩::rest) a w:=by
 refine aeV rfl λ_ hK'=>?_;obtain ⟨w',hr,hS⟩:=amd (P:=P) (t:=t) (c:=c) sz hu hz hzs h1 hfit h;unfold Oper.wp execOp;simp only [resolve,invoke,builtin,ad1,aek,adu,aeX,ad7,aeF,hx,hr];exact hK' _ _ (hK w' hS)
theorem afo (h:Stop (wpList P ops Q (⟨dst,.call { callee:= .builtin .clear,args:=#[x],argTypes:=#[ty] },t,pos,after,none⟩::rest) a w)):wpList P ops Q (⟨dst,.call { callee:= .builtin .clear,args:=#[x],argTypes:=#[ty] },t,pos,after,none⟩::rest) a w:=h.o
end
theorem agF {l:List (Int×Int)}{i cap:Nat}{cs:Array Value} (hi:i<l.length) (hn:l.length<=cap) (hc:cap*2<=cs.size) (htk:cs.toList.take (l.length*2)=eY l) (z:List Value) (hz:z.length=2) :
  (eU (eU cs (i*2) (eY (l.drop (i+1)))) ((l.length-1)*2) z).toList.take ((l.length-1)*2)=eY (l.eraseIdx i):=by
 have hys:(eY (l.drop (i+1))).length=(l.length-(i+1))*2:=by rw [lD,ad3,aiv]
 have hcl:cs.toList.length=cs.size:=by simp
 rw [l9 _ _ _ (by rw [kW];omega),adQ,List.take_append,List.take_take,Nat.min_self];have hp2:(eU cs (i*2) (eY (l.drop (i+1)))).toList.length=cs.size:=(ad4).trans (kW _ _ _);have h1:((eU cs (i*2) (eY (l.drop (i+1)))).toList.take ((l.length-1)*2)).length=(l.length-1)*2:=by
  rw [ads,hp2];omega
 rw [h1,ajN,aeO,adV,l9 _ _ _ oQ,adQ];rw [List.take_append,ads,hcl,ap1 oQ,ad9 (l:=cs.toList.take (i*2)) (by rw [ads];omega)];rw [List.take_append,hys,ad9 (l:=eY (l.drop (i+1))) oQ,show (l.length-1)*2-i*2-(l.length-(i+1))*2=0 by omega,aeO,adV];have h2:cs.toList.take (i*2)=eY (l.take i):=by
  have:=aey (List.take (i*2)) htk;rw [List.take_take,ap1 oQ]at this;rw [this]
  conv=>lhs;rw [<-aeS i l,AY]
  rw [aeC (by rw [lD,ads];omega),ad9 (by rw [lD,ads];omega)]
 rw [h2,<-AY,apQ]
theorem amV (l:List (Int×Int)) (i:Nat):eY (l.drop i)=(eY l).drop (i*2):=by
 rcases akJ i l.length with h|h
 ·have h1:eY l=eY (l.take i)++eY (l.drop i):=by rw [<-AY,aeS]
  have h2:(eY (l.take i)).length=i*2:=by rw [lD,ads];omega
  rw [h1,<-h2,List.drop_left]
 ·rw [aew h,aew (by rw [lD];omega)];rfl
theorem amW (l:List (Int×Int)):∀ u∈eY l,u.oneCell'=true:=by
 intro u hu;unfold eY at hu;rw [ajc]at hu;obtain ⟨s,_,hs⟩:=hu;simp only [ad5,ah4,apX]at hs;rcases hs with rfl|rfl <;> rfl
theorem amL (l:List (Int×Int)) (i:Nat) (hi:i<l.length) (hln:l.length<=1048576) (h:Sat w0 w (aC 105 2 lv (eY l)::F)) :
  Calls prog 75 #[lv,.int .i64 i,.int .i64 ((i:Int)+1)] w (aP λv w'=>∃ a n c,v=.slice a n c/\Sat w0 w' (aC 105 2 v (eY (l.eraseIdx i))::F)):=by
 rcases h.lC with ⟨rfl,hx,hF⟩|⟨b,n',cap,cs,rfl,hll,hn',hc,hcm,htk,hp⟩
 ·exfalso;have:=aey List.length hx;rw [lD]at this;simp at this;omega
 rw [lD]at hll;obtain rfl:n'=l.length:=by omega
 have hcm':cap<=9223372036854775807:=hcm;have Nc:=uQ (agF hi hn' hc htk [.int .i64 0,.int .i64 0] rfl);have h0:(0:Int)<=(i:Int):=oQ;have h1:(i:Int)<=(i:Int)+1:=oQ;have h2:(i:Int)+1<=(l.length:Int):=oQ;have h3:(l.length:Int)<=(cap:Int):=oQ;have hne:((i:Int)==(i:Int)+1)=false:=by rw [adX];omega
 have Hp:=uQ hp;have Hcm:=uQ hcm;have Hc:=uQ hc;have Hn:=uQ hn';have eG:=uQ htk;have Hi:=uQ hi;have iV:=uQ hln;clear hn' hc hcm htk hi h hll hln;go_enter func75,ntmps75;go_wp2_with fail;obtain ⟨ad,had,hsl⟩:∃ ad:Addr,(i+1<l.length->ad=⟨b,(i+1)*2,none⟩)/\∀ w,(Instr.sliceAt 97 (.slice (some ⟨b,0,none⟩) l.length cap) (some (.int .i64 ((i:Int)+1))) none none).run prog w=.ok (.slice (some ad) (l.length-(i+1)) (cap-(i+1))) w:=by
  by_cases hce:cap=i+1
  ·refine ⟨⟨b,0,none⟩,λhh=>by have:=Hn.o;omega,λw=>?_⟩;have h4:(0:Int)<=(i:Int)+1:=oQ;have h5:((i:Int)+1).toNat=i+1:=oQ;go_simp
  ·refine ⟨⟨b,(i+1)*2,none⟩,λ_=>rfl,λw=>?_⟩;have h4:(0:Int)<=(i:Int)+1:=oQ;have h5:((i:Int)+1).toNat=i+1:=oQ;go_simp
 have hic:i<=cap:=oQ;refine dN [] (λ_=>True) au ?_;refine rP 0 ?_ (y:=aZ);refine rP 1 ?_ (y:=aZ);refine rp 2 (hy:=yE0) (h:=?_);refine rP 3 ?_ (y:=aZ);refine rP 4 ?_ (y:=aZ);refine rP 5 ?_ (y:=(adK ak ak hsl));refine bW 6 ak au (λK hK=>?_);refine ag0 (e:=105) (w0:=w0) (b:=b) (cs:=cs) (k:=i) (ys:=eY (l.drop (i+1))) 2 16 au ah ah Hp.o.drew (by rw [lD,ad3,aiv]) ?_ (amW _) (by have:=Hn.o;have:=Hi.o;omega) Hc.o ?_
 ·intro j u hj;have hjl:=(abm.1 hj).1;rw [lD,ad3]at hjl;rw [had oQ,Addr.add_mid];rw [amV,ao5]at hj;exact Hp.o.drew.cellAt _ _ (kY eG.o hj)
 intro w2 hS2;refine hK _ _ (.inr (.inl trivial)) ?_;clear hK K;rw [show i+(l.length-(i+1))=l.length-1 by have:=Hi.o;omega];have hj0:(0:Int)<=((l.length-1:Nat):Int):=oQ;have hj1:((l.length-1:Nat):Int)<=(l.length:Int):=oQ;have hj2:¬ cap=l.length-1:=by have:=Hn.o;have:=Hi.o;omega
 have hj3:l.length-(l.length-1)=1:=by have:=Hi.o;omega
 have hfit:=uQ (show (l.length-1)*2+2<=(eU cs (i*2) (eY (l.drop (i+1)))).size by rw [kW];have:=Hc.o;have:=Hn.o;have:=Hi.o;omega);have Hk:=uQ (show (eY (l.eraseIdx i)).length=(l.length-1)*2 by rw [lD,List.length_eraseIdx_of_lt Hi.o,aiv]);generalize (l.length-1)=N at *
 refine rP 7 ?_ (y:=iy);refine dH au ?_;clear hp hsl had;go_wp2_with ((with_reducible refine afo ⟨?_⟩);refine aoq (o:=N*2) 2 underlying97 adO ah ah ah hfit.o hS2 ?_;intro w3 hS3);go_ret;refine ⟨_,rfl,_,_,_,rfl,?_⟩;exact Sat.lN hS3 Hk.o yH0 (by rw [kW,kW];exact Hc.o) Hcm.o Nc.o
section
variable {L:Seg.Log}
theorem Qy (hL:L.Ok) (hM:M.Ok K) (kR:K<=1099511627776) (n:Int) (h:Sat w0 w (aK p m L::aJ m M::F)) :
  Calls prog 37 #[ptr p,.int .i64 n] w (aP λv w'=>v=errno (L.remove M n).2/\Sat w0 w' (aK p m (L.remove M n).1.1::aJ m (L.remove M n).1.2::F)):=by
 obtain ⟨lv,hR⟩:=aK.oV h;have hok:=uq hR;have hf:=FQ hL n h;clear hR lv;rcases Jr (L:=L) n with ⟨ha,hb⟩|⟨i,ha,hb⟩
 ·have bH:=uQ (show L.remove M n=((L,M),9) by unfold Seg.Log.remove;rw [ha]);rw [hb]at hf;clear ha hb hL h;go_enter func37,ntmps37;go_wp2_with fail;refine hok.mono ?_;rintro e w2 ⟨v,rfl,rfl,rfl⟩;clear hok;go_wp2_with fail;refine hf.mono ?_;rintro e w2 ⟨v,rfl,rfl,hS2⟩;clear hf;go_wp2;go_ret;rw [bH.o];exact ⟨_,rfl,rfl,hS2⟩
 ·rw [hb]at hf;have hlt:=(Seg.Log.zT ha).1;have Hg:=uQ (show L.remove M n=if (M.remove (Seg.name n)).2=0 then ((L.without i,(M.remove (Seg.name n)).1),0) else ((L,(M.remove (Seg.name n)).1),(M.remove (Seg.name n)).2) by unfold Seg.Log.remove;rw [ha]);have hi0:(0:Int)<=(i:Int):=oQ;have hd:decide ((i:Int)<0)=false:=ad2 oQ;have bT:=uQ hlt;have iV:=uQ hL.len;have U8:=uQ hL.fresh;clear ha hb hL h hlt;go_enter func37,ntmps37;go_wp2_with fail;refine hok.mono ?_;rintro e w2 ⟨v,rfl,rfl,rfl⟩;clear hok;go_wp2_with fail;refine hf.mono ?_;rintro e w2 ⟨v,rfl,rfl,hS2⟩;clear hf;obtain ⟨lv,hR⟩:=aK.oV hS2;clear hS2;go_wp2_with fail;refine dN [6,7] (λw'=>w'.cell? ⟨p,0,none⟩=some (ptr m)) au ?_;have hG:w2.drew.cell? ⟨p,0,none⟩=some (ptr m):=hR.drew.cellP bJ 0 rfl;refine rP 0 ?_ (y:=aZ);refine rP 1 ?_ (y:=dW);refine rP 2 ?_ (y:=bY);refine rt 3 (h:=?_)
  refine rP 4 ?_ (y:=aZ);clear hG;refine bW 5 ak au (λK hK=>?_)
  (refine qF au ak ?_)
  refine (yY n hR.drew).mono ?_;rintro e w3 ⟨v,rfl,rfl,hS3⟩;refine hK _ _ (.inr (.inl (hS3.cellP bJ 0 rfl))) ?_;clear hK hR;refine bW 6 ak au (λK hK=>?_)
  (refine iC au ak ak ?_)
  refine (Dv hM kR (Sat.pk aQ) _).mono ?_;rintro e w4 ⟨v,rfl,rfl,hS4⟩;refine hK _ _ (.inl rfl) ?_;clear hK hS3;refine rP 7 ?_ (y:=iy);refine dH au ?_;clear hM;generalize M.remove (Seg.name n)=B at *
  obtain ⟨M2,e2⟩:=B;by_cases he:e2=0;rotate_left
  ·have heb:(e2==0)=false:=aiM he;have hfin:=uQ (Hg.o.trans (abj he));clear he;go_wp2_with fail;go_ret;rw [hfin.o];exact ⟨_,rfl,rfl,aK.shut2 (lv:=lv) (Sat.sb hS4)⟩
  subst he;have hfin:=uQ (Hg.o.trans (acg rfl));clear Hg;obtain ⟨la,lc,rfl⟩:∃ la lc,lv=.slice la L.l.length lc:=by
   obtain ⟨a,n',c,rfl,hn,_⟩:=Sat.rd (hS4.pk (A:=aC 105 2 lv (eY L.l)));rw [lD]at hn;exact ⟨a,c,by rw [show n'=L.l.length by omega]⟩
  have hw1:IntKind.i64.wrap ((L.l.length:Int)-1)=(L.l.length:Int)-1:=by rw [aeU];have:=iV.o;omega
  have hw2:IntKind.i64.wrap ((L.l.length:Int)-L.fresh)=(L.l.length:Int)-L.fresh:=by rw [aeU];have:=iV.o;have:=U8.o;omega
  have hw3:IntKind.i64.wrap (L.fresh-1)=L.fresh-1:=by rw [aeU];have:=iV.o;have:=U8.o;omega
  have hw4:IntKind.i64.wrap ((i:Int)+1)=(i:Int)+1:=by rw [aeU];have:=iV.o;have:=bT.o;omega
  have Et:=uQ (show (L.without i).on=if ((i:Int)==(L.l.length:Int)-1)=true then false else L.on by
   unfold Seg.Log.without;simp only [ai5];have:=bT.o;by_cases hh:i+1=L.l.length
   ·rw [acg hh,acg oQ]
   ·rw [abj hh,abj oQ])
  have oC:=uQ (show (L.without i).fresh=if decide ((L.l.length:Int)-L.fresh<=(i:Int))=true then L.fresh-1 else L.fresh by
   unfold Seg.Log.without;simp only [adY])
  have Hll:=uQ (show (L.without i).l=L.l.eraseIdx i/\(L.without i).limit=L.limit from ⟨rfl,rfl⟩);generalize L.without i=LW at *
  obtain ⟨ao3,Wl,Won,Wfr⟩:=LW;obtain ⟨rfl,rfl⟩:=Hll.o;obtain rfl:=Et.o;obtain rfl:=oC.o;clear Et oC Hll;cases hb1:((i:Int)==(L.l.length:Int)-1) <;> cases hb2:(decide ((L.l.length:Int)-L.fresh<=(i:Int)))
  all_goals
   go_wp2_with (first|((with_reducible refine bP ⟨?_⟩);refine fZ aQ ah bJ bI ak au ?_)|((with_reducible refine dh ⟨?_⟩);refine gq aQ ah ak pQ fV bI au ah ?_;intro wS hS))
   try have hS4:=hS
   have hG:(World.drew _).cell? ⟨p,2,none⟩=some (.slice la L.l.length lc)/\(World.drew _).cell? ⟨p,4,none⟩=some (.int .i64 L.fresh):=⟨hS4.drew.cellP bJ 2 rfl,hS4.drew.cellP bJ 4 rfl⟩;refine dN [10,11] (λw'=>w'.cell? ⟨p,2,none⟩=some (.slice la L.l.length lc)/\w'.cell? ⟨p,4,none⟩=some (.int .i64 L.fresh)) au ?_;refine rP 0 ?_ (y:=aZ);refine rP 1 ?_ (y:=aZ);refine rP 2 ?_ (y:=dW);refine rP 3 ?_ (y:=bY);refine rt 4 (h:=?_);refine rP 5 ?_ (y:=(qU ak dw));refine rP 6 ?_ (y:=aZ);refine rP 7 ?_ (y:=dW);refine rP 8 ?_ (y:=bY);refine rt 9 (h:=?_);refine rP 10 ?_ (y:=jH);refine rP 11 ?_ (y:=jH);refine dH au ?_;clear hG;have hS5:=hS4.drew;clear hS4;go_wp2_with (first|((with_reducible refine bP ⟨?_⟩);refine fZ aQ ah bJ bI ak au ?_)|((with_reducible refine dh ⟨?_⟩);refine gq aQ ah ak pQ fV bI au ah ?_;intro wS hS))
   refine (amL (lv:= .slice la L.l.length lc) L.l i bT.o iV.o (Sat.pk aQ)).mono ?_;rintro e w6 ⟨v,rfl,da,dn,dc,rfl,hS6⟩;go_wp2_with ((with_reducible refine dh ⟨?_⟩);refine gq aQ ah ak pQ fV bI au ah ?_;intro wS hS);go_ret;rw [hfin.o,hb1,hb2];simp only [apa,apA,afX];exact ⟨_,rfl,rfl,aK.shut2 (lv:= .slice da dn dc) (Sat.sb hS)⟩
theorem KJ {L:Seg.Log}{M:ay} (h:M.Ok K) (n:Int):(L.remove M n).1.2.Ok (K+1):=by
 unfold Seg.Log.remove;split;· exact h.mono (ai7 K)
 split <;> exact h.remove _
theorem afB {L:Seg.Log}{M:ay} (hl:L.l.getLast?=some s) (hf:0<L.fresh):L.rollback M=if (L.remove M s.1).2=0 then Seg.Log.back (L.fresh.toNat-1) (L.remove M s.1).1.1 (L.remove M s.1).1.2 else L.remove M s.1:=by
 unfold Seg.Log.rollback;obtain ⟨k,hk⟩:∃ k,L.fresh.toNat=k+1:=⟨L.fresh.toNat-1,by omega⟩;rw [hk];show (match L.l.getLast? with|none=>_|some s=>_)=_;rw [hl];rfl
theorem alC {L:Seg.Log}{M:ay} (hL:L.Ok) (hl:L.l.getLast?=some s) (hf:0<L.fresh) (h:(L.remove M s.1).2=0):(L.remove M s.1).1.1.fresh=L.fresh-1:=by
 have ha:=hL.Ol hl;unfold Seg.Log.remove at *
 rw [ha]at h ⊢;simp only at h ⊢;split
 ·unfold Seg.Log.without;have:=hL.fresh;simp only;rw [acg oQ]
 ·rename_i hh;rw [abj hh]at h;exact absurd h hh
theorem aam (hL:L.Ok) (hM:M.Ok K) (kR:K+1048576<=1099511627776) (h:Sat w0 w (aK p m L::aJ m M::F)) :
  Calls prog 36 #[ptr p] w (aP λv w'=>v=errno (L.rollback M).2/\Sat w0 w' (aK p m (L.rollback M).1.1::aJ m (L.rollback M).1.2::F)):=by
 have hok:Calls prog 45 #[ptr p] w (aP λv w'=>v=.bool true/\w=w'):=by
  obtain ⟨lv,hR⟩:=aK.oV h;exact uq hR
 have VG:=uQ (rfl:L.rollback M=L.rollback M);generalize hres:L.rollback M=RES at VG ⊢;have Hq:=uQ (show L.rollback M=RES from hres);have hfl:L.fresh.toNat<=1048576:=by have:=hL.fresh;have:=hL.len;omega
 have hinit:Hid (∃ (L':Seg.Log) (M':ay) (K':Nat),L'.Ok/\M'.Ok K'/\K'+L'.fresh.toNat<=1099511627776/\L'.rollback M'=RES/\L'.fresh.toNat=L.fresh.toNat/\Sat w0 w (aK p m L'::aJ m M'::F)):=uQ ⟨L,M,K,hL,hM,by omega,hres,rfl,h⟩;clear hres VG hL hM h Hq hfl;go_enter func36,ntmps36;go_wp2_with fail;refine hok.mono ?_;rintro e w2 ⟨v,rfl,rfl,rfl⟩;clear hok;go_wp2_with fail
 go_loopg [] L.fresh.toNat (λg wr=>∃ (L':Seg.Log) (M':ay) (K':Nat),L'.Ok/\M'.Ok K'/\K'+L'.fresh.toNat<=1099511627776/\L'.rollback M'=RES/\L'.fresh.toNat=g/\Sat w0 wr (aK p m L'::aJ m M'::F))
 case atStart=>exact hinit.o
 case round=>
  obtain ⟨L1,M1,K1,hL,hM,Px,hres,rfl,hS⟩:=hrel;clear hinit;by_cases hf:0<L1.fresh
  ·have hne:L1.l≠[]:=by intro e;have:=hL.fresh;rw [e]at this;simp at this;omega
   obtain ⟨s,hl⟩:∃ s,L1.l.getLast?=some s:=⟨_,List.getLast?_eq_some_getLast hne⟩;have hbl:=afB (M:=M1) hl hf;rw [hres]at hbl;have oz:=uQ hbl;have Hrf:=uQ (alC (M:=M1) hL hl hf);have HL2:=uQ (hL.remove M1 s.1);have uN:=uQ (KJ (L:=L1) hM s.1);have hrm:=Qy hL hM oQ s.1 hS.drew;obtain ⟨lv,hR⟩:=aK.oV hS;have hlen:=hL.len;obtain ⟨bk,n,cap,cs,rfl,hb,c0,c1,hB⟩:=acM hl hR;have hn:=hb.len;have hn0:(n:Int)<(n:Int)+1:=oQ;have hwn:IntKind.i64.wrap (n:Int)=(n:Int):=by rw [aeU];omega
   have e4:wr.cell? ⟨p,4,none⟩=some (.int .i64 L1.fresh):=hB.cellP bJ 4 rfl;have hG:wr.drew.cell? ⟨p,2,none⟩=some (.slice (some ⟨bk,0,none⟩) (n+1) cap)/\wr.drew.cell? ⟨bk,n*2,none⟩=some (.int .i64 s.1):=⟨hB.drew.cellP bJ 2 rfl,hB.drew.cellP bJ _ c0⟩;have Hf:=uQ (show 0<L1.fresh/\K1+L1.fresh.toNat<=1099511627776 from ⟨hf,Px⟩);clear hbl hne hl hb c0 c1 hB hR hlen hn hres hL hM Px;go_wp2_with fail;refine dN [14,15] (λw'=>w'.cell? ⟨p,2,none⟩=some (.slice (some ⟨bk,0,none⟩) (n+1) cap)/\w'.cell? ⟨bk,n*2,none⟩=some (.int .i64 s.1)) au ?_;refine rP 0 ?_ (y:=aZ);refine rP 1 ?_ (y:=aZ);refine rP 2 ?_ (y:=dW);refine rP 3 ?_ (y:=bY);refine rt 4 (h:=?_);refine rP 5 ?_ (y:=aZ);refine rP 6 ?_ (y:=dW);refine rP 7 ?_ (y:=bY);refine rt 8 (h:=?_);refine rP 9 ?_ (y:=(qU ak dw));refine rP 10 ?_ (y:=jH);refine rP 11 ?_ (y:=jJ);refine rP 12 ?_ (y:=bY)
   refine rt 13 (h:=?_);clear hG e4;refine bW 14 ak au (λK hK=>?_)
   (refine iC au ak ak ?_)
   refine hrm.mono ?_;rintro e w3 ⟨v,rfl,rfl,hS3⟩;refine hK _ _ (.inl rfl) ?_;clear hK hS hrm;refine rP 15 ?_ (y:=iy);refine dH au ?_;generalize L1.remove M1 s.1=A at *
   obtain ⟨⟨L2,M2⟩,e2⟩:=A;by_cases he:e2=0
   ·subst he;have H1:=uQ (oz.o.trans (acg rfl));have H2:=uQ (show L2.fresh=L1.fresh-1 from Hrf.o rfl);go_wp2_with fail
    go_roundg L2.fresh.toNat
    case measure=>have:=H2.o;have:=Hf.o;omega
    case rel=>
     refine ⟨L2,M2,K1+1,HL2.o,uN.o,?_,?_,rfl,hS3⟩
     ·have:=H2.o;have:=Hf.o;omega
     ·rw [H1.o];unfold Seg.Log.rollback
      congr 1
      have:=H2.o;have:=Hf.o;omega
   ·have heb:(e2==0)=false:=aiM he;have H1:=uQ (oz.o.trans (abj he));clear he;go_wp2_with fail;go_ret;rw [H1.o];exact ⟨_,rfl,rfl,hS3⟩
  ·have hz:L1.fresh.toNat=0:=by omega
   have H1:=uQ (show RES=(({ L1 with on:=false },M1),0) by
    rw [<-hres];unfold Seg.Log.rollback;rw [hz];rfl)
   obtain ⟨lv,hR⟩:=aK.oV hS;have hle:L1.fresh<=0:=oQ;clear hres hL hM Px hz hS;go_wp2_with (first|((with_reducible refine bP ⟨?_⟩);refine fZ aQ ah bJ bI ak au ?_)|((with_reducible refine dh ⟨?_⟩);refine gq aQ ah ak pQ fV bI au ah ?_;intro wS hS));go_ret;rw [H1.o];exact ⟨_,rfl,rfl,aK.shut2 (lv:=lv) (Sat.sb hS)⟩
end
end Go.Proofs.Y
namespace Go.Seg
open Go.ay
def Log.read (L:Log) (M:ay) (q:aV):aj.aI×Int:=
 match L.at q.seg with
 |none=>(aj.zeroE,9)
 |some _=>
  if (M.read (name q.seg) q.at_ q.size).2≠0 then (aj.zeroE,(M.read (name q.seg) q.at_ q.size).2)
  else if (aj.read (M.read (name q.seg) q.at_ q.size).1).2.2≠0 then (aj.zeroE,(aj.read (M.read (name q.seg) q.at_ q.size).1).2.2)
  else if (aj.read (M.read (name q.seg) q.at_ q.size).1).2.1≠(M.read (name q.seg) q.at_ q.size).1.length then (aj.zeroE,4)
  else ((aj.read (M.read (name q.seg) q.at_ q.size).1).1,0)
theorem RH (l:Bs):(aj.read l).1.key.length=32:=by
 unfold aj.read;dsimp only;split;· rfl
 split;· rfl
 split;· rfl
 split;· rfl
 split
 ·rename_i h1 h2 h3 h4 h5;simp only [ads,ad3];simp only [Nat.not_lt]at h3;omega
 ·rfl
theorem als {K:Nat}{M:ay} (h:M.Ok K) (s:ByteArray) (a n:Int):(M.read s a n).1.length<=16777216:=by
 unfold ay.read;dsimp only;split;· simp
 split;· simp
 rename_i i _;have:=(h.file i).vG;split;· simp
 split;· simp
 simp only [ads,ad3];omega
end Go.Seg
namespace Go.Proofs.Y
open Go.ay
section
variable {L:Seg.Log}
theorem ajJ (hH:Ro w0 F Half) (hL:L.Ok) (hM:M.Ok K) (pl:Seg.aV) (h1 : -9223372036854775808<=pl.at_/\pl.at_<=9223372036854775807) (h2 : -9223372036854775808<=pl.size/\pl.size<=9223372036854775807) (h:Sat w0 w (aK p m L::aJ m M::F)) :
  Calls prog 99 #[ptr p,KE pl] w (aP λv w'=>∃ da dc,v=.tuple #[.agg (dQ (L.read M pl).1 (.slice da (L.read M pl).1.data.length dc)),errno (L.read M pl).2] /\
   Sat w0 w' (bQ (.slice da (L.read M pl).1.data.length dc) (L.read M pl).1.data::aK p m L::aJ m M::F)):=by
 have HH:=uQ hH;rcases Jr (L:=L) pl.seg with ⟨ha,hb⟩|⟨i,ha,hb⟩
 ·have Hf:=uQ (show L.read M pl=(aj.zeroE,9) by unfold Seg.Log.read;rw [ha]);have Hb:=uQ hb;clear ha hb hH;go_enter func99,ntmps99;go_wp2_with (first|((with_reducible refine fD ⟨?_⟩);refine fE aQ ak ak ?_;intro bB wB hB)|((with_reducible refine tC ⟨?_⟩);refine uM aQ ?_;intro bE wE hE));obtain ⟨lv,hR⟩:=aK.oV (hE.pk (A:=aK p m L));refine (uq hR).mono ?_;rintro e w2 ⟨v,rfl,rfl,rfl⟩;clear hR lv;have hf:=FQ hL pl.seg (hE.pk (A:=aK p m L));rw [Hb.o]at hf;go_wp2_with ((with_reducible refine bP ⟨?_⟩);refine fZ aQ ah bJ bI ak au ?_);refine hf.mono ?_;rintro e w3 ⟨v,rfl,rfl,hS3⟩;clear hf hE;go_wp2_with (first|((with_reducible refine xZ ⟨?_⟩);refine zn ?_)|((with_reducible refine qE ⟨?_⟩);first|(refine kM aQ ah ah fQ fV sQ ?_;intro wS hS)|(refine kM (e:=aj.zeroE) (da:=none) (dn:=0) (dc:=0) aQ ah ah rfl fV sQ ?_;intro wS hS)));rw [Hf.o]
  exact ⟨rfl,_,Gm rfl aQ ah bJ rfl,_,rfl,none,0,rfl,Sat.gB.2 (Sat.sb hS)⟩
 ·have pR:=uQ (show L.read M pl=if (M.read (Seg.name pl.seg) pl.at_ pl.size).2≠0 then (aj.zeroE,(M.read (Seg.name pl.seg) pl.at_ pl.size).2)
   else if (aj.read (M.read (Seg.name pl.seg) pl.at_ pl.size).1).2.2≠0 then (aj.zeroE,(aj.read (M.read (Seg.name pl.seg) pl.at_ pl.size).1).2.2)
   else if (aj.read (M.read (Seg.name pl.seg) pl.at_ pl.size).1).2.1≠(M.read (Seg.name pl.seg) pl.at_ pl.size).1.length then (aj.zeroE,4)
   else ((aj.read (M.read (Seg.name pl.seg) pl.at_ pl.size).1).1,0) by unfold Seg.Log.read;rw [ha])
  have Hb:=uQ hb;have Hrl:=uQ (Seg.als hM (Seg.name pl.seg) pl.at_ pl.size);have hi0:(0:Int)<=(i:Int):=oQ;have hd:decide ((i:Int)<0)=false:=ad2 oQ;clear ha hb hH;go_enter func99,ntmps99;go_wp2_with (first|((with_reducible refine fD ⟨?_⟩);refine fE aQ ak ak ?_;intro bB wB hB)|((with_reducible refine tC ⟨?_⟩);refine uM aQ ?_;intro bE wE hE));obtain ⟨lv,hR⟩:=aK.oV (hE.pk (A:=aK p m L));refine (uq hR).mono ?_;rintro e w2 ⟨v,rfl,rfl,rfl⟩;clear hR lv;have hf:=FQ hL pl.seg (hE.pk (A:=aK p m L));rw [Hb.o]at hf;go_wp2_with ((with_reducible refine bP ⟨?_⟩);refine fZ aQ ah bJ bI ak au ?_);refine hf.mono ?_;rintro e w3 ⟨v,rfl,rfl,hS3⟩;clear hf hE;obtain ⟨lv,hR⟩:=aK.oV hS3;clear hS3;go_wp2_with fail
  refine dN [11,12,13,14,15,16] (λw'=>w'.cell? ⟨p,0,none⟩=some (ptr m)/\w'.cell? ⟨bB,0,none⟩=some (.int .i64 pl.seg)/\w'.cell? ⟨bB,1,none⟩=some (.int .i64 pl.at_)/\w'.cell? ⟨bB,2,none⟩=some (.int .i64 pl.size)) au ?_;have hG:w3.drew.cell? ⟨p,0,none⟩=some (ptr m)/\w3.drew.cell? ⟨bB,0,none⟩=some (.int .i64 pl.seg)/\w3.drew.cell? ⟨bB,1,none⟩=some (.int .i64 pl.at_)/\w3.drew.cell? ⟨bB,2,none⟩=some (.int .i64 pl.size):=⟨hR.drew.cellP bJ 0 rfl,hR.drew.cellP bJ 0 rfl,hR.drew.cellP bJ 1 rfl,hR.drew.cellP bJ 2 rfl⟩;refine rP 0 ?_ (y:=aZ);refine rP 1 ?_ (y:=dW);refine rP 2 ?_ (y:=bY);refine rt 3 (h:=?_);refine rP 4 ?_ (y:=bY);refine rt 5 (h:=?_);refine rP 7 ?_ (y:=bY);refine rt 8 (h:=?_);refine rP 9 ?_ (y:=bY);refine rt 10 (h:=?_);clear hG;refine bW 6 ak au (λK hK=>?_)
  (refine qF au ak ?_)
  refine (yY pl.seg hR.drew).mono ?_;rintro e w4 ⟨v,rfl,rfl,hS4⟩;refine hK _ _ (.inr (.inl ⟨hS4.cellP bJ 0 rfl,hS4.cellP bJ 0 rfl,hS4.cellP bJ 1 rfl,hS4.cellP bJ 2 rfl⟩)) ?_;clear hK hR;refine bW 11 ak au (λK hK=>?_)
  (refine ag1 au ak ak ak ak ?_)
  refine (alr hM (Sat.pk aQ) _ pl.at_ pl.size h1 h2).mono ?_;rintro e w5 ⟨v,rfl,bv,rfl,hS5⟩;refine hK _ _ (.inl rfl) ?_;clear hK hS4 h1 h2;refine rP 12 ?_ (y:=aZ);refine rP 13 ?_ (y:=(iF ak dw));refine rP 14 ?_ (y:=(iF ak dw));refine rP 15 ?_ (y:=iy);refine rP 16 ?_ (y:=iy);refine dH au ?_;generalize M.read (Seg.name pl.seg) pl.at_ pl.size=RR at *
  obtain ⟨bs,e1⟩:=RR;by_cases he:e1=0;rotate_left
  ·have heb:(e1==0)=false:=aiM he;have Hf:=uQ (pR.o.trans (acg he));clear he;go_wp2_with (first|((with_reducible refine xZ ⟨?_⟩);refine zn ?_)|((with_reducible refine qE ⟨?_⟩);first|(refine kM aQ ah ah fQ fV sQ ?_;intro wS hS)|(refine kM (e:=aj.zeroE) (da:=none) (dn:=0) (dc:=0) aQ ah ah rfl fV sQ ?_;intro wS hS)));rw [Hf.o];exact ⟨rfl,_,Gm rfl aQ ah bJ rfl,_,rfl,none,0,rfl,Sat.gB.2 (Sat.pick (aK.shut2 (lv:=lv) (Sat.sb hS)) aU)⟩
  subst he;have NK:=uQ (pR.o.trans (abj (λh=>h rfl)));clear pR;obtain ⟨ba,bn,bc,hbv,hbn,hbc,hbl⟩:=BU hS5;subst hbv;subst hbl;have hfr:=Yo bs (bv:= .slice ba bs.length bc) (Ro.op (Ro.bQ _ _)) ⟨_,_,_,rfl,hbn,hbc⟩ (Ro.os HH.o) (by have:=Hrl.o;simp only at this;omega) hS5;have hkey:=Seg.RH bs;generalize aj.read bs=FR at *
  obtain ⟨fe,fn,e2⟩:=FR;simp only at hfr hkey;go_wp2_with fail;refine hfr.mono ?_;rintro e w6 ⟨v,rfl,da,dc,rfl,hS6⟩;clear hfr hS5;by_cases he2:e2=0;rotate_left
  ·have heb:(e2==0)=false:=aiM he2;have Hf:=uQ (NK.o.trans (acg he2));clear he2;go_wp2_with (first|((with_reducible refine tC ⟨?_⟩);refine uM aQ ?_;intro bE wE hE)|((with_reducible refine xZ ⟨?_⟩);refine zn ?_)|((with_reducible refine qE ⟨?_⟩);first|(refine kM aQ ah ah fQ fV sQ ?_;intro wS hS)|(refine kM (e:=aj.zeroE) (da:=none) (dn:=0) (dc:=0) aQ ah ah rfl fV sQ ?_;intro wS hS)));rw [Hf.o];exact ⟨rfl,_,Gm rfl aQ ah bJ rfl,_,rfl,none,0,rfl,Sat.gB.2 (Sat.pick (aK.shut2 (lv:=lv) (Sat.sb hS)) aU)⟩
  subst he2;have NM:=uQ (NK.o.trans (abj (λh=>h rfl)));clear NK;by_cases hn:fn=bs.length;rotate_left
  ·have hnb:((fn:Int)==(bs.length:Int))=false:=by rw [adX];omega
   have Hf:=uQ (NM.o.trans (acg hn));clear hn;go_wp2_with (first|((with_reducible refine tC ⟨?_⟩);refine uM aQ ?_;intro bE wE hE)|((with_reducible refine xZ ⟨?_⟩);refine zn ?_)|((with_reducible refine qE ⟨?_⟩);first|(refine kM aQ ah ah fQ fV sQ ?_;intro wS hS)|(refine kM (e:=aj.zeroE) (da:=none) (dn:=0) (dc:=0) aQ ah ah rfl fV sQ ?_;intro wS hS)));rw [Hf.o];exact ⟨rfl,_,Gm rfl aQ ah bJ rfl,_,rfl,none,0,rfl,Sat.gB.2 (Sat.pick (aK.shut2 (lv:=lv) (Sat.sb hS)) aU)⟩
  have Hf:=uQ (NM.o.trans (abj (λh=>h hn)));have hnb:((fn:Int)==(bs.length:Int))=true:=by rw [ai5];omega
  clear hn NM;go_wp2_with (first|((with_reducible refine tC ⟨?_⟩);refine uM aQ ?_;intro bE wE hE)|((with_reducible refine EK ⟨?_⟩);refine GV aQ ah bJ fQ ?_)|((with_reducible refine qE ⟨?_⟩);first|(refine kM aQ ah ah fQ fV sQ ?_;intro wS hS)|(refine kM (e:=aj.zeroE) (da:=none) (dn:=0) (dc:=0) aQ ah ah rfl fV sQ ?_;intro wS hS)));rw [Hf.o];exact ⟨rfl,_,Gm rfl aQ ah bJ hkey,_,rfl,da,dc,rfl,Sat.sub (aK.shut2 (lv:=lv) (Sat.sb hS)) kL⟩
end
end Go.Proofs.Y
namespace Go.Seg
open Go.ay
structure Alike (M M':ay):Prop where
 now:M'.now=M.now
 room:M'.room=M.room
 off:M'.off=M.off
 bytes:∀ p∈M.now,(M'.file p.2).now=(M.file p.2).now
theorem Alike.refl (M:ay):Alike M M:=⟨rfl,rfl,rfl,λ_ _=>rfl⟩
theorem Alike.trans {A B C:ay} (h:Alike A B) (k:Alike B C):Alike A C:=
 ⟨k.now.trans h.now,k.room.trans h.room,k.off.trans h.off,λp hp=>(k.bytes p (by rw [h.now];exact hp)).trans (h.bytes p hp)⟩
theorem Alike.used {M M':ay} (h:Alike M M'):M'.used=M.used:=by
 unfold ay.used;rw [h.now];exact aey List.sum (akU λp hp=>by rw [h.bytes p hp])
theorem Alike.all {M M':ay} (h:Alike M M') (s:ByteArray):M'.all s=M.all s:=by
 unfold ay.all;rw [h.off,h.now];cases hg:bU M.now s with
 |none=>rfl
 |some i=>simp only;rw [h.bytes (s,i) (jD hg)]
theorem LH {M:ay}{K:Nat} (ok:M.Ok K) (q:Quiet M) (s:ByteArray):Alike M (M.sync s).1:=by
 cases hg:bU M.now s with
 |none=>
  have:M.sync s=(M,9):=by unfold ay.sync;rw [q.off,hg];rfl
  rw [this];exact Alike.refl M
 |some i=>
  rw [q.Gu hg];refine ⟨rfl,rfl,rfl,λp hp=>?_⟩;show ((M.jf i _).file p.2).now=_;rw [EU (ok.ig.ids _ (jD hg))];split
  ·rename_i e;rw [e];rfl
  ·rfl
theorem wF {M:ay} (q:Quiet M) (s:ByteArray) (b:Bs) :
  bU M.now s=none/\M.append s b=(M,9)\/∃ i,bU M.now s=some i/\((M.room:Int)-M.used<b.length/\M.append s b=(M,11)\/¬ (M.room:Int)-M.used<b.length/\M.append s b=(M.jf i ((M.file i).do ⟨false,0,b⟩),0)):=by
 unfold ay.append;rw [q.off,q.step];cases hg:bU M.now s with
 |none=>exact .inl ⟨rfl,rfl⟩
 |some i=>
  refine .inr ⟨i,rfl,?_⟩;simp only [afX,apA,Bool.true_eq_false];by_cases h:(M.room:Int)-M.used<b.length
  ·exact .inl ⟨h,by rw [acg h]⟩
  ·exact .inr ⟨h,by rw [abj h]⟩
theorem EN {M:ay} (q:Quiet M) (s:ByteArray) :
  (M.create s).2≠0/\(M.create s).2≠11/\(M.create s).1=M\/good s=true/\bU M.now s=none/\M.now.length<500/\M.create s=({ M with files:=M.files++[bK.new],now:=kV M.now s M.files.length,waits:=M.waits++[⟨ByteArray.empty,s,M.files.length⟩] },0):=by
 unfold ay.create;rw [q.off,q.step];simp only [afX,apA,Bool.true_eq_false];by_cases h1:good s=false
 ·rw [acg h1];exact .inl ⟨by simp,by simp,rfl⟩
 rw [abj h1];by_cases h2:(bU M.now s).isSome=true
 ·rw [acg h2];exact .inl ⟨by simp,by simp,rfl⟩
 rw [abj h2];by_cases h3:500<=M.now.length
 ·rw [acg h3];exact .inl ⟨by simp,by simp,rfl⟩
 rw [abj h3];have hg:good s=true:=by simpa using h1
 refine .inr ⟨hg,by simpa using h2,by omega,?_⟩;unfold ay.link jc.on;simp only [apa,abj (rE hg)];rw [q.off]
theorem KL {M:ay} (q:Quiet M){s:ByteArray}{i:Nat} (h:bU M.now s=some i):M.remove s=(M.link ⟨s,ByteArray.empty,0⟩,0):=by
 unfold ay.remove;rw [q.off,q.step,h];simp
theorem F5 {l:Names}{s t:ByteArray} (h:s≠t):bU (iD l t) s=bU l s:=by
 induction l with
 |nil=>rfl
 |cons p l ih=>
  unfold bU iD at *
  rw [ajL];by_cases e:p.1=t
  ·rw [abj (by simp [bne,oL,e])];rw [ih,List.find?_cons];have:(p.1==s)=false:=by rw [oL,e];exact ad2 (λhh=>h hh.symm)
   rw [this]
  ·rw [acg (by simp [oL,bne,e]),List.find?_cons,List.find?_cons];cases (p.1==s)
   ·exact ih
   ·rfl
theorem ake {l:Names}{s t:ByteArray}{i:Nat} (h:s≠t):bU (sJ l t i) s=bU l s:=by
 have ht:(t==s)=false:=by rw [oL];exact ad2 (λhh=>h hh.symm)
 induction l with
 |nil=>unfold sJ bU;simp [ht]
 |cons p l ih=>
  unfold sJ;split
  ·unfold bU;rw [List.find?_cons,ht]
  ·unfold bU at *
   rw [List.find?_cons,List.find?_cons];cases (p.1==s)
   ·exact ih
   ·rfl
theorem CY {l:Names}{s t:ByteArray}{i:Nat} (h:s≠t):bU (kV l t i) s=bU l s:=by
 unfold kV;rw [ake h,F5 h]
theorem CZ {l:Names} (hs:oD l) (s:ByteArray) (i:Nat):bU (kV l s i) s=some i:=
 Az (hs.put s i).keys ((wW l s i).mem_iff.2 (.head _))
theorem ajY (l:Names) (s:ByteArray) (i:Nat):iD (sJ l s i) s=iD l s:=by
 induction l with
 |nil=>unfold sJ iD;simp [bne,oL]
 |cons p l ih=>
  unfold sJ;split
  ·unfold iD;rw [ajL,abj (by simp [bne,oL])]
  ·unfold iD at *
   rw [ajL,ajL,ih]
theorem QK {l:Names}{s:ByteArray}{i:Nat} (h:bU l s=none):iD (kV l s i) s=l:=by
 unfold kV;rw [ajY,yH h,yH h]
structure Calm (K room:Nat) (M:ay):Prop where
 ok:M.Ok K
 quiet:Quiet M
 dst:rV M
 used:M.used<=M.room
 room:M.room=room
section
variable {K r:Nat}{M:ay}{L:Log}
theorem Calm.mono {K':Nat} (h:Calm K r M) (hk:K<=K'):Calm K' r M:=⟨h.ok.mono hk,h.quiet,h.dst,h.used,h.room⟩
theorem Calm.new (K r:Nat) (h:r<=16777216):Calm K r (new r):=⟨ay.Ok.new K r h,Quiet.new r,List.nodup_nil,aea _,rfl⟩
theorem Calm.create (h:Calm K r M) (s:ByteArray):Calm (K+1) r (M.create s).1:=by
 have f:=(Fits.does h.ok h.dst h.used ⟨0,s,s,0,0,[],[]⟩ (show (0:Int)≠8 by decide) (show (0:Int)≠9 by decide)).1;exact ⟨h.ok.create s,h.quiet.create s,f.dst,f.used,f.room.trans h.room⟩
theorem Calm.append (h:Calm K r M) (s:ByteArray) (b:Bs):Calm (K+1) r (M.append s b).1:=by
 have f:=(Fits.does h.ok h.dst h.used ⟨1,s,s,0,0,b,[]⟩ (show (1:Int)≠8 by decide) (show (1:Int)≠9 by decide)).1;exact ⟨h.ok.append s b,h.quiet.append s b,f.dst,f.used,f.room.trans h.room⟩
theorem Calm.remove (h:Calm K r M) (s:ByteArray):Calm (K+1) r (M.remove s).1:=by
 have f:=(Fits.does h.ok h.dst h.used ⟨4,s,s,0,0,[],[]⟩ (show (4:Int)≠8 by decide) (show (4:Int)≠9 by decide)).1;exact ⟨h.ok.remove s,h.quiet.remove s,f.dst,f.used,f.room.trans h.room⟩
theorem Calm.sync (h:Calm K r M) (s:ByteArray):Calm (K+1) r (M.sync s).1:=by
 have f:=(Fits.does h.ok h.dst h.used ⟨5,s,s,0,0,[],[]⟩ (show (5:Int)≠8 by decide) (show (5:Int)≠9 by decide)).1;exact ⟨h.ok.sync s,h.quiet.sync s,f.dst,f.used,f.room.trans h.room⟩
theorem Calm.dR (h:Calm K r M):Calm K r M.dR.1:=by
 have f:=(Fits.does h.ok h.dst h.used ⟨6,ByteArray.empty,ByteArray.empty,0,0,[],[]⟩ (show (6:Int)≠8 by decide) (show (6:Int)≠9 by decide)).1;exact ⟨h.ok.dR,h.quiet.dR,f.dst,f.used,f.room.trans h.room⟩
def Has (L:Log) (M:ay):Prop:=∀ s∈L.l,∃ i,bU M.now (name s.1)=some i
structure Keeps (K r:Nat) (L:Log) (M:ay):Prop where
 log:L.Ok
 calm:Calm K r M
 has:Has L M
theorem Keeps.mono {K':Nat} (h:Keeps K r L M) (hk:K<=K'):Keeps K' r L M:=⟨h.log,h.calm.mono hk,h.has⟩
theorem Keeps.shut (h:Keeps K r L M):Keeps (K+1) r (L.shut M).1.1 (L.shut M).1.2/\(L.shut M).2=0/\(L.shut M).1.1.l=L.l/\(L.shut M).1.1.fresh=L.fresh/\Alike M (L.shut M).1.2:=by
 have iY:=h.log.shut M;cases hon:L.on with
 |false=>rw [Log.acQ M hon]at iY ⊢;exact ⟨h.mono (ai7 K),rfl,rfl,rfl,Alike.refl M⟩
 |true=>
  obtain ⟨s,hl⟩:=h.log.last hon;rw [Log.acR M hl hon]at iY ⊢;obtain ⟨i,hi⟩:=h.has s (ae5 hl);have e:=h.calm.quiet.Gu hi;have e2:(M.sync (name s.1)).2=0:=by rw [e]
  have ha:=LH h.calm.ok h.calm.quiet (name s.1);have hc:=h.calm.sync (name s.1);rw [acg e2]at iY ⊢;exact ⟨⟨iY,hc,λt ht=>by rw [ha.now];exact h.has t ht⟩,rfl,rfl,rfl,ha⟩
theorem Keeps.jC (h:Keeps K r L M) (b:Bs) (hb:b.length<=16777216):Keeps (K+3) r (L.jC M b).1.1 (L.jC M b).1.2 /\
  ((L.jC M b).2.2≠0->(L.jC M b).1.1=L/\Alike M (L.jC M b).1.2/\((L.jC M b).2.2=11->(M.room:Int)-M.used<b.length+8)):=by
 have iY:=h.log.jC M b hb;obtain ⟨n1,n2,n3⟩:=h.log.next;unfold Log.jC at iY ⊢;by_cases h1:1048576<=L.next
 ·rw [acg h1]at iY ⊢;exact ⟨h.mono oQ,λ_=>⟨rfl,Alike.refl M,λhh=>by cases hh⟩⟩
 rw [abj h1]at iY ⊢;have hc1:=h.calm.create (name L.next);rcases EN h.calm.quiet (name L.next) with ⟨c1,c2,c3⟩|⟨hg,hn,hl,c⟩
 ·rw [acg c1]at iY ⊢;simp only [c3]at iY hc1 ⊢;exact ⟨h.mono oQ,λ_=>⟨by first|trivial|rfl,Alike.refl M,λhh=>absurd hh c2⟩⟩
 have c0:(M.create (name L.next)).2=0:=by rw [c]
 rw [abj (λhh=>hh c0)]at iY ⊢;have hself:bU (M.create (name L.next)).1.now (name L.next)=some M.files.length:=by
  rw [c];exact CZ h.calm.ok.ig.ny _ _
 have FC:(M.create (name L.next)).1.used=M.used/\(M.create (name L.next)).1.room=M.room:=by
  refine ⟨?_,by rw [c]⟩;rw [c];show ((kV M.now (name L.next) M.files.length).map λp=>((M.files++[bK.new]).getD p.2 bK.new).now.length).sum=_;rw [DN _ _ _ (λj=>((M.files++[bK.new]).getD j bK.new).now.length),yH hn];have e0:((M.files++[bK.new]).getD M.files.length bK.new).now.length=0:=by simp [bK.new]
  rw [e0,ad8];refine ay.Lu (g:=λj=>((M.files++[bK.new]).getD j bK.new).now.length) (h:=λj=>(M.file j).now.length) λp hp=>?_;have:=h.calm.ok.ig.ids p hp;simp only [ay.file,adT];rw [aej this]
 have hhas:Has L (M.create (name L.next)).1:=λs hs=>by
  obtain ⟨i,hi⟩:=h.has s hs;rw [c];refine ⟨i,?_⟩;show bU (kV M.now (name L.next) M.files.length) (name s.1)=_;rw [CY (λe=>by rw [e,hn]at hi;cases hi)];exact hi
 have hc2:=hc1.append (name L.next) (mag++b);rcases wF hc1.quiet (name L.next) (mag++b) with ⟨a1,_⟩|⟨i,a1,⟨a2,a3⟩|⟨a2,a3⟩⟩
 ·rw [hself]at a1;cases a1
 ·have e1:((M.create (name L.next)).1.append (name L.next) (mag++b)).2=11:=by rw [a3]
  have e1':¬ ((M.create (name L.next)).1.append (name L.next) (mag++b)).2=0:=by rw [e1];decide
  have e2:((M.create (name L.next)).1.append (name L.next) (mag++b)).1=(M.create (name L.next)).1:=by rw [a3]
  have e3:=KL hc1.quiet hself;have hc3:=hc1.remove (name L.next);rw [abj e1',acg e1]at iY ⊢;rw [e2]at *
  have e4:((M.create (name L.next)).1.remove (name L.next)).2=0:=by rw [e3]
  have ha:Alike M ((M.create (name L.next)).1.remove (name L.next)).1:=by
   rw [e3,c];refine ⟨?_,rfl,rfl,λp hp=>?_⟩
   ·show jc.on ⟨name L.next,ByteArray.empty,0⟩ (kV M.now (name L.next) M.files.length)=M.now;unfold jc.on;simp only [abj (rE hg),apa];exact QK hn
   ·have:=h.calm.ok.ig.ids p hp;simp only [ay.file,ay.link,adT];rw [aej this]
  refine ⟨⟨iY,hc3.mono oQ,λs hs=>by rw [ha.now];exact h.has s hs⟩,λ_=>⟨rfl,ha,λ_=>?_⟩⟩;rw [FC.1,FC.2,aaL]at a2;have:mag.length=8:=rfl;omega
 ·have e1:((M.create (name L.next)).1.append (name L.next) (mag++b)).2=0:=by rw [a3]
  rw [acg e1]at iY ⊢;refine ⟨⟨iY,hc2.mono oQ,λs hs=>?_⟩,λhh=>absurd rfl hh⟩;rw [a3];show ∃ j,bU (M.create (name L.next)).1.now (name s.1)=some j;rcases aeg.1 hs with hs|hs
  ·exact hhas s hs
  ·rw [adZ.1 hs];exact ⟨_,hself⟩
theorem Keeps.begin (h:Keeps K r L M) (b:Bs) (hb:b.length<=16777216):Keeps (K+4) r (L.begin M b).1.1 (L.begin M b).1.2 /\
  ((L.begin M b).2.2≠0->(L.begin M b).1.1.l=L.l/\(L.begin M b).1.1.fresh=L.fresh/\Alike M (L.begin M b).1.2/\((L.begin M b).2.2=11->(M.room:Int)-M.used<b.length+8)):=by
 obtain ⟨h1,h2,h3,h4,h5⟩:=h.shut;unfold Log.begin;rw [acg h2];obtain ⟨k1,k2⟩:=h1.jC b hb;refine ⟨k1,λhh=>?_⟩;obtain ⟨k3,k4,k5⟩:=k2 hh;rw [k3];exact ⟨h3,h4,h5.trans k4,λe=>by rw [<-h5.used,<-h5.room];exact k5 e⟩
theorem Keeps.grow (h:Keeps K r L M) (b:Bs) (hf:L.fits b.length=true):Keeps (K+1) r (L.grow M b).1.1 (L.grow M b).1.2 /\
  ((L.grow M b).2.2≠0->(L.grow M b).1.1=L/\Alike M (L.grow M b).1.2/\((L.grow M b).2.2=11->(M.room:Int)-M.used<b.length)):=by
 have iY:=h.log.grow M b hf;unfold Log.grow at iY ⊢;cases hl:L.l.getLast? with
 |none=>exact ⟨h.mono (ai7 K),λhh=>absurd rfl hh⟩
 |some s=>
  rw [hl]at iY;simp only at iY ⊢;have hc:=h.calm.append (name s.1) b;obtain ⟨j,hj⟩:=h.has s (ae5 hl);rcases wF h.calm.quiet (name s.1) b with ⟨a1,_⟩|⟨i,a1,⟨a2,a3⟩|⟨a2,a3⟩⟩
  ·rw [hj]at a1;cases a1
  ·rw [a3]at iY hc ⊢;rw [abj (show ¬ ((M,(11:Int)).2=0) from yF0)]at iY ⊢;exact ⟨h.mono (ai7 K),λ_=>⟨rfl,Alike.refl M,λ_=>a2⟩⟩
  ·rw [a3]at iY hc ⊢;rw [acg rfl]at iY ⊢;refine ⟨⟨iY,hc,λt ht=>?_⟩,λhh=>absurd rfl hh⟩;show ∃ j,bU M.now (name t.1)=some j;rcases aeg.1 ht with ht|ht
   ·exact h.has t ((List.dropLast_subset _ ht))
   ·rw [adZ.1 ht];exact ⟨j,hj⟩
theorem Ba {x:aj.aI} (h:(aj.encode x).2=0) (hk:x.key.length=32):(aj.encode x).1.length=aj.size x:=by
 unfold aj.encode at *
 split at h
 ·rename_i hc;exact absurd h hc
 ·rename_i hc;rw [abj hc];unfold aj.body aj.size;simp only [aaL,aj.jk,aer,abj hc];split
  ·rename_i ht;have:x.data.length=0:=by
    simp only [Decidable.not_not]at hc;unfold aj.check at hc;rw [ht]at hc;simp only [show ¬ ((2:Int)=0) by decide,apA,apa]at hc;split at hc
    ·cases hc
    split at hc
    ·cases hc
    omega
   simp;omega
  ·omega
theorem Keeps.append (h:Keeps K r L M) (x:aj.aI) (hk:x.key.length=32):Keeps (K+4) r (L.append M x).1.1 (L.append M x).1.2 /\
  ((L.append M x).2.2≠0->(L.append M x).1.1.l=L.l/\(L.append M x).1.1.fresh=L.fresh/\Alike M (L.append M x).1.2/\((L.append M x).2.2=11->(M.room:Int)-M.used<aj.size x+8)):=by
 have hl:=encode_len x hk;by_cases h1:(aj.encode x).2=0
 ·have hz:=Ba h1 hk;cases hf:L.fits (aj.encode x).1.length with
  |true=>
   rw [Log.xX h1 hf];obtain ⟨k1,k2⟩:=h.grow _ hf;refine ⟨k1.mono oQ,λhh=>?_⟩;obtain ⟨k3,k4,k5⟩:=k2 hh;rw [k3];exact ⟨rfl,rfl,k4,λe=>by have:=k5 e;omega⟩
  |false=>
   rw [Log.wC h1 hf];obtain ⟨k1,k2⟩:=h.begin _ (by omega:(aj.encode x).1.length<=16777216);exact ⟨k1,λhh=>by rw [<-hz];exact k2 hh⟩
 ·rw [Log.IY h1];refine ⟨h.mono oQ,λ_=>⟨rfl,rfl,Alike.refl M,λe=>?_⟩⟩;exfalso;have e':(aj.encode x).2=11:=e;unfold aj.encode at e';split at e'
  ·simp only at e';unfold aj.check at e'
   repeat' split at e'
   all_goals cases e'
  ·cases e'
theorem Wi (h:Keeps K r L M) (x:aj.aI) (hk:x.key.length=32) (h0:(L.append M x).2.2=0):∃ i,bU (L.append M x).1.2.now (name (L.append M x).2.1.seg)=some i:=by
 have hK:=(h.append x hk).1;have key:∃ s,(L.append M x).1.1.l.getLast?=some s/\s.1=(L.append M x).2.1.seg:=by
  by_cases h1:(aj.encode x).2=0
  ·cases hf:L.fits (aj.encode x).1.length with
   |true=>
    rw [Log.xX h1 hf]at h0 ⊢;unfold Log.grow at h0 ⊢;cases hl:L.l.getLast? with
    |none=>
     exfalso;unfold Log.fits at hf;rw [aev]at hf;exact h.log.on hf.1 (ahP.1 hl)
    |some s=>
     rw [hl]at h0;simp only at h0 ⊢;split at h0
     ·rename_i e;rw [acg e];exact ⟨(s.1,s.2+((aj.encode x).1.length:Int)),by simp,rfl⟩
     ·rename_i e;exact absurd h0 e
   |false=>
    rw [Log.wC h1 hf]at h0 ⊢;unfold Log.begin at h0 ⊢;split at h0
    ·rename_i e;rw [acg e];unfold Log.jC at h0 ⊢;split at h0
     ·cases h0
     rename_i e1;rw [abj e1];split at h0
     ·rename_i e2;exact absurd h0 e2
     rename_i e2;rw [abj e2];split at h0
     ·rename_i e3;rw [acg e3];exact ⟨((L.shut M).1.1.next,8+((aj.encode x).1.length:Int)),by simp,rfl⟩
     ·split at h0
      ·rename_i e3 e4;simp only at h0;split at h0
       ·cases h0
       ·rename_i e5;exact absurd h0 e5
      ·rename_i e3 e4;exact absurd h0 e3
    ·rename_i e;exact absurd h0 e
  ·rw [Log.IY h1]at h0;exact absurd h0 h1
 obtain ⟨s,hs,e⟩:=key;rw [<-e];exact hK.has s (ae5 hs)
theorem Keeps.commit (h:Keeps K r L M):Keeps (K+5) r (L.commit M).1.1 (L.commit M).1.2:=by
 obtain ⟨k1,_⟩:=h.append bC rfl;have iY:=h.log.commit M;rw [Log.Jf]at iY ⊢;split
 ·exact k1.mono oQ
 rename_i e1;rw [abj e1]at iY;simp only [Decidable.not_not]at e1;obtain ⟨i,hi⟩:=Wi h bC rfl e1;have es:=k1.calm.quiet.Gu hi;have hc2:=k1.calm.sync (name (L.append M bC).2.1.seg);have hs2:((L.append M bC).1.2.sync (name (L.append M bC).2.1.seg)).2=0:=by rw [es]
 rw [abj (λhh=>hh hs2)]at iY ⊢;have hd:=hc2.quiet.LD;have hd2:(((L.append M bC).1.2.sync (name (L.append M bC).2.1.seg)).1.dR).2=0:=by rw [hd]
 rw [abj (λhh=>hh hd2)]at iY ⊢;refine ⟨iY,hc2.dR,λs hs=>?_⟩;obtain ⟨j,hj⟩:=k1.has s hs;refine ⟨j,?_⟩;show bU (((L.append M bC).1.2.sync (name (L.append M bC).2.1.seg)).1.dR).1.now (name s.1)=some j;rw [hd];show bU ((L.append M bC).1.2.sync (name (L.append M bC).2.1.seg)).1.now (name s.1)=some j;rw [es];exact hj
end
theorem Ku (n:Int) (h1:0<=n) (h2:n<1048576):number (name n)=(n,true):=by
 unfold name;rw [abj oQ];unfold number;have hl:(lead++iW n.toNat 8).length=12:=by rw [aaL,wJ];rfl
 have hd:(lead++iW n.toNat 8).drop 4=iW n.toNat 8:=rfl;have ht:(lead++iW n.toNat 8).take 4=lead:=rfl;have hv:=aoh 8 n.toNat oQ;simp only [hl,hd,ht,OQ,hv,true_and];rw [acg oQ];simp only [Prod.mk.injEq,and_true];omega
end Go.Seg
namespace Go.Proofs.Y
open Go.ay
end Go.Proofs.Y
