import Derived.Test.YtihngncbioofnaaGreatDoorJ12
import Derived.Laws.StructEq
open Go.Proofs.Tryz
set_option maxRecDepth 100000
set_option linter.unusedVariables false
set_option linter.unusedSimpArgs false
set_option maxHeartbeats 128000000
open Go Go.Sl Go.MapKept Go.RowKit
open Go.Proofs.YtihngncbioofnaaGreatDoor
variable {w0 w:World}{F R:List aG}{B p r ps pn Bi gb pi q kp ip:Nat}{N seg:Int}{mi:aj.Bs->Option Seg.aV}{sv v uv tv lv:Value}{k:aj.Bs}{m:aj.Bs->Option (Rep.jG)}{bg:List (Value×List Int)}{mm:aj.Bs->Option Rep.jG}{d:Bool}{gs:List Int}{t:Tab.Tb (Rep.jG)}{xs:List Value}{us:List Rep.Use}{P:aO.Plan}
namespace Go.Proofs.Y
open Go.ay
def dG (p:Nat) (m:aj.Bs->Option (Rep.jG)) (B:Nat):aG:=λh=>∃ (t:Tab.Tb (Rep.jG)) (sv:Value),(t.Ok/\t.Is m/\t.n+t.gone<=B)/\stars [iI p 262 sv t.n t.gone,aC 266 37 sv (t.slots.flatMap (slotL iL))] h
theorem D5:jF prog 202=some (.agg (iL ⟨none,0,0,Seg.aV.zero⟩).toArray):=by kernel_rfl
theorem dG.open (h:Sat w0 w (dG p m B::F)):∃ (t:Tab.Tb (Rep.jG)) (sv:Value),(t.Ok/\t.Is m/\t.n+t.gone<=B)/\Sat w0 w (iI p 262 sv t.n t.gone::aC 266 37 sv (t.slots.flatMap (slotL iL))::F):=by
 obtain ⟨ha,x,hx,q,r,dd,rfl,⟨t,sv,hin,hp⟩,hq⟩:=h;refine ⟨t,sv,hin,ha,_,hx,?_⟩;show stars ([iI p 262 sv t.n t.gone,aC 266 37 sv (t.slots.flatMap (slotL iL))]++F) _;rw [qO];exact ⟨q,r,dd,rfl,hp,hq⟩
theorem dG.shut (h1:t.Ok) (h2:t.Is m) (h3:t.n+t.gone<=B) (h:Sat w0 w (iI p 262 sv t.n t.gone::aC 266 37 sv (t.slots.flatMap (slotL iL))::F)):Sat w0 w (dG p m B::F):=
 Sat.join (M:=[iI p 262 sv t.n t.gone,aC 266 37 sv (t.slots.flatMap (slotL iL))]) h λ_ hx=>⟨t,sv,⟨h1,h2,h3⟩,hx⟩
theorem aaA (h:Sat w0 w F):Calls prog 119 #[] w (aP λv w'=>∃ p,v=ptr p/\Sat w0 w' (dG p (λ_=>none) 0::F)):=by
 go_enter func119,ntmps119
 go_wp2_with (first
  |((with_reducible refine at_make ⟨?_⟩);refine Me (e:=266) (sz:=37) (eX:=88) (n:=8) au MJ h ah ah aN aN ?_;intro bM wM hM)
  |((with_reducible refine fD ⟨?_⟩);refine fE hM ak ak ?_;intro bB wB hB))
 go_ret;refine ⟨_,rfl,bB,rfl,?_⟩;have e:(List.replicate 8 (slotL iL ⟨0,aj.zero32,qy⟩)).flatten=(List.replicate 8 (⟨0,aj.zero32,qy⟩:Tab.Slot (Rep.jG))).flatMap (slotL iL):=(KU 8 _).symm;rw [e]at hB;exact dG.shut (t:=⟨List.replicate 8 ⟨0,aj.zero32,qy⟩,0,0⟩) (Tab.QN aN rfl) (Tab.QM rfl 0 0) (abl 0) hB
theorem jS.LV:type_of% @dG.open:=@dG.open
theorem jS.TW:type_of% @func122:=@func122
theorem jS.TY:type_of% @ntmps122:=@ntmps122
theorem jS.LX:type_of% @D5:=@D5
abbrev jS.uI:=@qy
abbrev jS.lU:Nat:=202
theorem jS.LY:type_of% @aa5:=@aa5
theorem jS.DU:type_of% @X9:=@X9
theorem jS.zf:type_of% @underlying202:=@underlying202
theorem jS.DV:type_of% @dG.shut:=@dG.shut
open jS in
theorem Yu (hB:B<=268435000) (hk:k.length=32) (h:Sat w0 w (dG p m B::F)) :
  Calls prog 122 #[ptr p,.agg (aA k).toArray] w (aP λv w'=>v=.tuple #[.agg (iL ((m k).getD ⟨none,0,0,Seg.aV.zero⟩)).toArray,.bool (m k).isSome]/\Sat w0 w' (dG p m B::F)):=QA
section
variable {N:Nat}
theorem jS.Ua:type_of% @func205:=@func205
theorem jS.Ub:type_of% @ntmps205:=@ntmps205
abbrev jS.og:Nat:=88
abbrev jS.qp:=@Rep.jG
open jS in
theorem abP (ok:t.Ok) (hN:t.n<=N) (hNb:N<=134217728) (Zb:t.slots.length<=1073741824) (h:Sat w0 w (iI p 262 sv t.n t.gone::aC 266 37 sv (t.slots.flatMap (slotL iL))::F)) :
  Calls prog 205 #[ptr p,.int .i64 N] w (aP λ_ w'=>∃ s' sv',Tab.wz t s' N/\Sat w0 w' (iI p 262 sv' t.n 0::aC 266 37 sv' (s'.flatMap (slotL iL))::F)):=QB
end
theorem acD (k:aj.Bs) (hk:k.length=32) (v:Rep.jG) (w:World) :
  (Instr.build 266 #[(0,.int .i64 1),(1,.agg (aA k).toArray),(2,.agg (iL v).toArray)]).run prog w=.ok (.agg (slotL iL ⟨1,k,v⟩).toArray) w:=by
 have hbk:(aA k).toArray.size=32:=by rw [abn,aX,hk]
 refine (apP (P:=prog) [(0,.int .i64 1),(1,.agg (aA k).toArray),(2,.agg (iL v).toArray)] akQ MJ (by
  intro p' hp;simp only [ad5,ah4,apX]at hp;have hzz:(Value.agg (slotL iL (⟨0,aj.zero32,qy⟩:Tab.Slot (Rep.jG))).toArray).cells.size=37:=by
   show (slotL iL (⟨0,aj.zero32,qy⟩:Tab.Slot (Rep.jG))).toArray.size=37;rw [abn,lS iL _ aN 4 rfl]
  rw [hzz];rcases hp with rfl|rfl|rfl
  ·exact ⟨0,rfl,by show 0+1<=37;omega⟩
  ·refine ⟨1,?_,?_⟩
   ·show some (1,32)=some (1,(aA k).toArray.size);rw [hbk]
   ·show 1+(aA k).toArray.size<=37;omega
  ·exact ⟨33,rfl,by show 33+4<=37;omega⟩) w).trans ?_
 rw [show (Value.agg (slotL iL (⟨0,aj.zero32,qy⟩:Tab.Slot (Rep.jG))).toArray).cells=(slotL iL (⟨0,aj.zero32,qy⟩:Tab.Slot (Rep.jG))).toArray from rfl,Rt iL ⟨0,aj.zero32,qy⟩ k v aN hk rfl 4 rfl]
theorem jS.Uc:type_of% @func163:=@func163
theorem jS.Ud:type_of% @ntmps163:=@ntmps163
theorem jS.Ue:type_of% @abP:=@abP
theorem jS.Uf:type_of% @acD:=@acD
open jS in
theorem ak2 (hB:B<=134217000) (hk:k.length=32) (v:Rep.jG) (h:Sat w0 w (dG p m B::F)) :
  Calls prog 163 #[ptr p,.agg (aA k).toArray,.agg (iL v).toArray] w (aP λ_ w'=>Sat w0 w' (dG p (Tab.put m k v) (B+1)::F)):=QC
def dK (bg:List (Value×List Int)):aG:=stars (bg.map λp=>aC 3 1 p.1 (ints p.2))
abbrev dL (p:Nat) (N:Int) (lv:Value) (kp ip gb:Nat):aG:=pt p (.cells #[.int .i64 N,lv,ptr kp,ptr ip,.map (some gb)] 144 (0,0))
def mW (mm:aj.Bs->Option Rep.jG) (mk:aj.Bs->Option aO.Kv) (bg:List (Value×List Int)):Prop:=
 ∀ k,∃ a n c,(mm k).getD qy=⟨a,n,c,(aO.iT mk k).2⟩/\((.slice a n c,(aO.iT mk k).1)∈bg\/(aO.iT mk k).1=[]/\a=none/\n=0/\c=0)
theorem sD {P:Program}{ops:Array Oper}{Q:Exit->Act->World->Prop}{a:Act}{w:World}{b:Bool} (id:Nat) (h:Stop ((Code.region id ops b).wp P Q a w)):(Code.region id ops b).wp P Q a w:=h.o
theorem adx {P:Program}{ops:Array Oper}{Q:Exit->Act->World->Prop}{rest:List Oper}{a:Act}{w:World}{dst:Option Nat}{ty t:TypeId}{pos:String}{after:Array Edge}{x y z:Operand}{vx vy vz v:Value} (hx:a.eval x=vx) (hy:a.eval y=vy) (hz:a.eval z=vz) (hr:∀ w,(Instr.build ty #[(0,vx),(1,vy),(2,vz)]).run P w=.ok v w) (h:wpList P ops Q rest (a.put dst v) w) :
  wpList P ops Q (⟨dst,.build ty #[(0,x),(1,y),(2,z)],t,pos,after,none⟩::rest) a w:=
 vS (by simp only [aeX,ad7,aeF,hx,hy,hz]) hr h
section
variable {q:Value×List Int}{mk:aj.Bs->Option aO.Kv}{iv:Value}
theorem afG (h:Sat w0 w (aC 3 1 q.1 (ints q.2)::dK bg::F)):Sat w0 w (dK (q::bg)::F):=Sat.star.2 h
theorem WG (hq:q∈bg) (h:Sat w0 w (dK bg::F)):bF 1 q.1 (ints q.2) w:=by
 obtain ⟨G,hG⟩:=Ls (bg.map λp=>aC 3 1 p.1 (ints p.2)) _ (abL.2 ⟨q,hq,rfl⟩);unfold dK at h;rw [hG]at h;exact Sat.rd (Sat.star.1 h)
theorem mW.new:mW (λ_=>none) (λ_=>none) bg:=λk=>⟨none,0,0,rfl,.inr ⟨rfl,rfl,rfl,rfl⟩⟩
theorem mW.put {k:aj.Bs}{a:Option Addr}{n c:Nat}{l:List Int}{pl:Seg.aV} (h:mW mm mk bg) (hs:(Value.slice a n c,l)∈bg\/l=[]/\a=none/\n=0/\c=0):mW (Tab.put mm k ⟨a,n,c,pl⟩) (Tab.put mk k (l,pl)) bg:=λj=>by
 unfold Tab.put aO.iT;by_cases hj:j=k
 ·simp only [acg hj,apd];exact ⟨a,n,c,rfl,hs⟩
 ·simp only [abj hj];exact h j
theorem mW.more (h:mW mm mk bg):mW mm mk (q::bg):=λk=>by
 obtain ⟨a,n,c,h1,h2⟩:=h k;exact ⟨a,n,c,h1,h2.imp (.tail _) id⟩
theorem aga (h1:∀ u∈xs,u.oneCell'=true) (hl:xs.length<=2147483648) (hr:Ro w0 F (bF 1 iv xs)) (h:Sat w0 w F) :
  Calls prog 162 #[iv] w (aP λv w'=>Sat w0 w' (aC 3 1 v xs::F)):=by
 have H1:=uQ h1;have Hl:=uQ hl;obtain ⟨a,n,c,rfl,hn,hcs⟩:=hr w h;have Hr:=uQ hr;clear h1 hl hr;cases a with
 |none=>
  have hx:xs=[]:=by
   cases xs with
   |nil=>rfl
   |cons x xs=>obtain ⟨_,e,_⟩:=hcs 0 x rfl;cases e
  subst hx;obtain rfl:n=0:=by simp only [aeL]at hn;omega
  have he:∀ w,(binOp .eql 29 (.slice none 0 c) (.slice none 0 0)).run prog w=.ok (.bool true) w:=λw=>by first|kernel_rfl|rfl
  go_enter func162,ntmps162;go_wp2_with fail;go_ret;exact ⟨_,rfl,Sat.gB.2 h⟩
 |some ad=>
  clear hn hcs;have he:∀ w,(binOp .eql 29 (.slice (some ad) n c) (.slice none 0 0)).run prog w=.ok (.bool false) w:=λw=>by first|kernel_rfl|rfl
  go_enter func162,ntmps162
  go_wp2_with (first
   |((with_reducible refine Om ⟨?_⟩);refine Ux (e:=3) (sz:=1) (eX:=8) au h ?_;intro bN wN hN)
   |(with_reducible apply lH))
  refine ⟨Uu 3 1 8 au hN ah ah aU (Hr.o _ hN.drop) H1.o (by have:=Hl.o;simp only [aeL];omega) aN ?_⟩;intro v' w' hS;rw [aeu]at hS;go_wp2_with fail;go_ret;exact ⟨_,rfl,hS.sb⟩
theorem agx {p kp ip gb B:Nat}{N s:Int}{lv:Value}{f:aj.dD}{da:Option Addr}{dn dc:Nat} (hk:f.e.key.length=32) (hB:B<=13000000) (hko:mW mm mk bg) (hln:∀ k,(aO.iT mk k).1.length<=1048576)
  (h:Sat w0 w (dL p N lv kp ip gb::dG kp mm B::dK bg::F)) :
  Calls prog 120 #[ptr p,.int .i64 s,.agg (gV f (.slice da dn dc))] w (aP λ_ w'=>∃ mm' WJ,mW mm' (aO.Gv mk (s,f)) WJ/\Sat w0 w' (dL p N lv kp ip gb::dG kp mm' (B+1)::dK WJ::F)):=by
 have Hk:=uQ hk;have iK:=uQ (show (aA f.e.key).length=32 by rw [aX,hk]);have HB:=uQ hB;obtain ⟨ka,kn,kc,hk1,hk2⟩:=hko f.e.key;have HT:=uQ (λ(w':World) (R:List aG) (hw:Sat w0 w' (dG kp mm B::R))=>Yu (k:=f.e.key) (adt hB aN) hk hw);rw [hk1]at HT;have dS:=uQ hko;have iV:=uQ (hln f.e.key);have Hq:=uQ hk2;generalize (mm f.e.key).isSome=ok at *
 have e0:(gV f (.slice da dn dc))[0]?=some (.int .i64 f.e.tag):=rfl;obtain ⟨e34,e35,nI⟩:=EX f (.slice da dn dc) hk;clear hk hB hko hln hk1 hk2;go_enter func120,ntmps120;go_wp2_with (with_reducible apply fD);refine ⟨fE h ak ak ?_⟩;intro b5 w5 h5;clear h;have h6:Sat w0 w5.drew (pt b5 (.cells (gV f (.slice da dn dc)) 54 (0,0))::dL p N lv kp ip gb::dG kp mm B::dK bg::F):=h5.drew;clear h5;go_wp2_with fail;refine dN [7,8,9,10,12,13] (λw'=>w'.cell? ⟨p,2,none⟩=some (.pointer (some ⟨kp,0,none⟩))/\w'.rangeAt b5 1 (aA f.e.key)) au ?_;have hG:World.cell? _ ⟨p,2,none⟩=some (.pointer (some ⟨kp,0,none⟩))/\World.rangeAt _ b5 1 (aA f.e.key):=⟨h6.cellP bf 2 rfl,λj v hj=>h6.cellP aU (1+j) (nI j v hj)⟩;refine rP 0 ?_ (y:=aZ);refine rP 1 ?_ (y:=dW);refine rP 2 ?_ (y:=bY);refine rt 3 (h:=?_);refine rP 4 ?_ (y:=bY);refine rP 5 ?_ (y:=bY)
 refine gK 6 ak au bV (jh (b:=b5) (o:=1) (aA f.e.key) ah underlying50 rfl yG0 (λw hw=>hw.2)) aQ gQ ?_;clear hG;refine sO 7 11 ak ak au (λK hK=>?_) (λK hK=>?_)
 focus
  (refine iC au ak ak ?_)
  refine (HT.o _ _ (h6.sb:Sat w0 _ (dG kp mm B::pt b5 (.cells (gV f (.slice da dn dc)) 54 (0,0))::dL p N lv kp ip gb::dK bg::F))).mono ?_;rintro ee w7 ⟨v,rfl,rfl,h7⟩;refine hK _ _ (.inl rfl) ?_;clear hK h6;refine rP 8 ?_ (y:=aZ);refine rP 9 ?_ (y:=(iF ak dw));refine rP 10 ?_ (y:=(iF ak dw));refine bW 11 ak au (λK hK=>?_);refine nH (D5) h7 rfl ?_;intro b6 w8 h8;refine hK _ _ (.inr (.inl ⟨h8.cellP iO 2 rfl,λj v hj=>h8.cellP eH (1+j) (nI j v hj)⟩)) ?_;clear hK h7
 rotate_left
 focus
  refine nH (D5) h6 rfl ?_;intro b6 w7 h7;refine hK _ _ (.inr (.inl ⟨h7.cellP eH 2 rfl,λj v hj=>h7.cellP bf (1+j) (nI j v hj)⟩)) ?_;clear hK h6;refine bW 7 ak au (λK hK=>?_)
  (refine iC au ak ak ?_)
  refine (HT.o _ _ (h7.sb:Sat w0 _ (dG kp mm B::pt b6 (.cells (iL qy).toArray 202 (0,0))::pt b5 (.cells (gV f (.slice da dn dc)) 54 (0,0))::dL p N lv kp ip gb::dK bg::F))).mono ?_;rintro ee w8 ⟨v,rfl,rfl,h8'⟩;refine hK _ _ (.inl rfl) ?_;clear hK h7;have h8:Sat w0 w8 (pt b6 (.cells (iL qy).toArray 202 (0,0))::dG kp mm B::pt b5 (.cells (gV f (.slice da dn dc)) 54 (0,0))::dL p N lv kp ip gb::dK bg::F):=h8'.sb;clear h8';refine rP 8 ?_ (y:=aZ);refine rP 9 ?_ (y:=(iF ak dw));refine rP 10 ?_ (y:=(iF ak dw))
 all_goals
  refine bW 12 ak au (λK hK=>?_);refine kQ (cs':=(iL ⟨ka,kn,kc,(aO.iT mk f.e.key).2⟩).toArray) h8 ak ak ah cZ bI au ah ?_;intro w9 h9;refine hK _ _ (.inl rfl) ?_;clear hK h8;refine rP 13 ?_ (y:=iy);refine dH au ?_
  try simp only [kP]
  try go_frame
  have f0:w9.cell? ⟨b5,0,none⟩=some (.int .i64 f.e.tag):=h9.cellP eH 0 e0;have f1:w9.cell? ⟨b6,0,none⟩=some (.slice ka kn kc):=h9.cellP aU 0 rfl;have f34:w9.cell? ⟨b5,34,none⟩=some (.int .i64 f.at_):=h9.cellP eH 34 e34;have f35:w9.cell? ⟨b5,35,none⟩=some (.int .i64 f.size):=h9.cellP eH 35 e35;obtain ⟨c,hc⟩:∃ c,(aO.iT mk f.e.key).1=c:=⟨_,rfl⟩;rw [hc]at Hq iV;have Hc:=uQ hc;generalize (aO.iT mk f.e.key).2=pl0 at *
  clear hc HT;by_cases ht:f.e.tag=0;rotate_left
  focus
   have hb:(f.e.tag==0)=false:=by rw [adX];exact ht
   have hD:=uQ (show ∃ ra rn rc lX,(mW mm mk lX/\((Value.slice ra rn rc,aO.pz (aO.iT mk f.e.key).1 s f.e.tag)∈lX\/aO.pz (aO.iT mk f.e.key).1 s f.e.tag=[]/\ra=none/\rn=0/\rc=0))/\Sat w0 _ (pt b6 (.cells (iL ⟨ra,rn,rc,pl0⟩).toArray 202 (0,0))::dG kp mm B::pt b5 (.cells (gV f (.slice da dn dc)) 54 (0,0))::dL p N lv kp ip gb::dK lX::F) from ⟨ka,kn,kc,bg,⟨dS.o,by rw [Hc.o,show aO.pz c s f.e.tag=c from abj (λq=>ht q.1)];exact Hq.o⟩,h9⟩);clear ht h9
   repeat (first|go_skip|(with_reducible apply sD 4)|go_values|go_guarded|go_step|go_upon)
  rotate_left
  focus
   have hb:(f.e.tag==0)=true:=ai5.2 ht
   have lg:=uQ (show ∀ (w':World) (R:List aG),Sat w0 w' (dK bg::R)->bF 1 (.slice ka kn kc) (ints c) w' from λw' R hw=>by
    rcases Hq.o with q|⟨q1,q2,q3,q4⟩
    ·exact WG q hw
    ·rw [q1,q2,q3,q4];exact xu 1 0 w')
   have hrd:=lg.o _ _ (h9.sb:Sat w0 w9 (dK bg::F));by_cases hs:c.getLast?=some s
   focus
    have hD:=uQ (show ∃ ra rn rc lX,(mW mm mk lX/\((Value.slice ra rn rc,aO.pz (aO.iT mk f.e.key).1 s f.e.tag)∈lX\/aO.pz (aO.iT mk f.e.key).1 s f.e.tag=[]/\ra=none/\rn=0/\rc=0))/\Sat w0 _ (pt b6 (.cells (iL ⟨ra,rn,rc,pl0⟩).toArray 202 (0,0))::dG kp mm B::pt b5 (.cells (gV f (.slice da dn dc)) 54 (0,0))::dL p N lv kp ip gb::dK lX::F) from ⟨ka,kn,kc,bg,⟨dS.o,by rw [Hc.o,show aO.pz c s f.e.tag=c from abj (λq=>q.2 hs)];exact Hq.o⟩,h9⟩);have hpos:0<c.length:=apO.2 (by intro e;rw [e]at hs;cases hs);obtain ⟨bk,off,cc,e,hcell⟩:=tY hrd (show c[c.length-1]?=some s by rw [<-aeH];exact hs);cases e;have hne:((c.length:Int)==0)=false:=by rw [adX];omega
    have hnq:(s != s)=false:=bne_self_eq_false ..;have hwl:IntKind.i64.wrap ((c.length:Int)-1)=((c.length-1:Nat):Int):=by rw [adr _ (by have:=iV.o;omega)];omega
    have hi0:(0:Int)<=((c.length-1:Nat):Int):=oQ;have hi1:((c.length-1:Nat):Int)<(c.length:Int):=oQ;have hi2:c.length-1<c.length:=oQ;clear ht h9 hrd hs hpos
    repeat (first|go_skip|(with_reducible apply sD 4)|go_values|go_guarded|go_step|go_upon)
   rotate_left
   focus
    have NU:=uQ (show aO.pz c s f.e.tag=c++[s] from acg ⟨ht,hs⟩);have U0:=uQ h9;rcases c with _|⟨x,xs⟩
    focus
     obtain ⟨aa,nn,cc,e1,e2,e3⟩:=hrd;cases e1;obtain rfl:kn=0:=by unfold ints at e2;rw [aeF,aeL]at e2;omega
     clear ht h9 hs e2 e3
     repeat (first|go_skip|(with_reducible apply sD 3)|go_values|go_guarded|go_step|go_upon)
    rotate_left
    focus
     obtain ⟨y,hy⟩:∃ y,(x::xs)[(x::xs).length-1]?=some y:=⟨_,aay yF0⟩;have hys:(y != s)=true:=by
      rw [afZ];intro e;rw [e,<-aeH]at hy;exact hs hy
     obtain ⟨bk,off,cc,e,hcell⟩:=tY hrd hy;cases e;have hpos:0<(x::xs).length:=Nat.succ_pos _;generalize x::xs=c at *
     have hne:((c.length:Int)==0)=false:=by rw [adX];omega
     have hwl:IntKind.i64.wrap ((c.length:Int)-1)=((c.length-1:Nat):Int):=by rw [adr _ (by have:=iV.o;omega)];omega
     have hi0:(0:Int)<=((c.length-1:Nat):Int):=oQ;have hi1:((c.length-1:Nat):Int)<(c.length:Int):=oQ;have hi2:c.length-1<c.length:=oQ;clear ht h9 hrd hs hpos hy
     repeat (first|go_skip|(with_reducible apply sD 3)|go_values|go_guarded|go_step|go_upon)
    all_goals
     refine ⟨?_⟩;obtain ⟨c,ka,kn,kc,Hc,iV,NU,lg,g1,h9⟩:∃ (c:List Int) (ka:Option Addr) (kn kc:Nat),Hid ((aO.iT mk f.e.key).1=c)/\Hid (c.length<=1048576)/\Hid (aO.pz c s f.e.tag=c++[s])/\Hid (∀ (w':World) (R:List aG),Sat w0 w' (dK bg::R)->bF 1 (.slice ka kn kc) (ints c) w')/\World.cell? _ ⟨b6,0,none⟩=some (.slice ka kn kc)/\Sat w0 _ (pt b6 (.cells (iL ⟨ka,kn,kc,pl0⟩).toArray 202 (0,0))::dG kp mm B::pt b5 (.cells (gV f (.slice da dn dc)) 54 (0,0))::dL p N lv kp ip gb::dK bg::F):=⟨_,_,_,_,Hc,iV,NU,lg,f1,U0.o⟩;have jT:=uQ (λ(w':World) (G:List aG) (hw:Sat w0 w' (dK bg::G))=>aga (xs:=ints c) (iv:= .slice ka kn kc) (λu hu=>by unfold ints at hu;obtain ⟨z,_,rfl⟩:=abL.1 hu;rfl) (by unfold ints;rw [aa4];exact adt iV.o aN) (λw2 h2=>lg.o w2 G h2) hw);have kH:=uQ (show (ints c).length<=2147483648 by unfold ints;rw [aa4];exact adt iV.o aN)
     clear U0 lg f1
     repeat (first|go_skip|fail|go_values|go_guarded|go_step|go_upon)
     refine (jT.o _ _ (h9.sb:Sat w0 _ (dK bg::pt b6 (.cells (iL ⟨ka,kn,kc,pl0⟩).toArray 202 (0,0))::dG kp mm B::pt b5 (.cells (gV f (.slice da dn dc)) 54 (0,0))::dL p N lv kp ip gb::F))).mono ?_;rintro ee wA ⟨v,rfl,hA⟩;clear g1 h9;dsimp only
     repeat (first|go_skip|(with_reducible apply nR)|go_values|go_guarded|go_step|go_upon)
     refine ⟨nN (e:=3) (sz:=1) (eX:=8) au hA (v:= .int .i64 s) rfl (cs:=#[.int .i64 s]) rfl rfl bI ?_⟩;intro bN wN hN;clear hA
     repeat (first|go_skip|(with_reducible apply lH)|go_values|go_guarded|go_step|go_upon)
     refine ⟨oh 3 1 8 au hN ah ah bf aU rfl (abl 1) rfl kH.o bI bI (ys:=ints [s]) rfl ?_⟩;intro bA nA cA wB hB;clear hN
     repeat (first|go_skip|(with_reducible apply dh)|go_values|go_guarded|go_step|go_upon)
     refine ⟨gq (cs':=(iL ⟨some ⟨bA,0,none⟩,nA,cA,pl0⟩).toArray) hB ah ak ah (ku (ku cZ)) bI au ah ?_⟩;intro wE hE;clear hB
     have hD:=uQ (show ∃ ra rn rc lX,(mW mm mk lX/\((Value.slice ra rn rc,aO.pz (aO.iT mk f.e.key).1 s f.e.tag)∈lX\/aO.pz (aO.iT mk f.e.key).1 s f.e.tag=[]/\ra=none/\rn=0/\rc=0))/\Sat w0 _ (pt b6 (.cells (iL ⟨ra,rn,rc,pl0⟩).toArray 202 (0,0))::dG kp mm B::pt b5 (.cells (gV f (.slice da dn dc)) 54 (0,0))::dL p N lv kp ip gb::dK lX::F) from ⟨_,_,_,(Value.slice (some ⟨bA,0,none⟩) nA cA,c++[s])::bg,⟨dS.o.more,.inl (by rw [Hc.o,NU.o];exact List.mem_cons_self ..)⟩,by
      have h1:Sat w0 wE (aC 3 1 (.slice (some ⟨bA,0,none⟩) nA cA) (ints (c++[s]))::dK bg::pt b6 (.cells (iL ⟨some ⟨bA,0,none⟩,nA,cA,pl0⟩).toArray 202 (0,0))::dG kp mm B::pt b5 (.cells (gV f (.slice da dn dc)) 54 (0,0))::dL p N lv kp ip gb::F):=by
       have e:ints c++ints [s]=ints (c++[s]):=by unfold ints;rw [adU]
       rw [<-e];exact hE.sb
      exact (afG (q:=(Value.slice (some ⟨bA,0,none⟩) nA cA,c++[s])) h1).sb⟩)
     clear hE
     repeat (first|go_skip|(with_reducible apply sD 4)|go_values|go_guarded|go_step|go_upon)
  all_goals
   refine ⟨?_⟩;obtain ⟨ra,rn,rc,lX,hq2,hS⟩:=hD.o;have Vz:=uQ hq2;have g34:=hS.cellP eH 34 e34;have g35:=hS.cellP eH 35 e35;clear hD hq2
   repeat (first|go_skip|(with_reducible apply y7)|go_values|go_guarded|go_step|go_upon)
   refine ⟨adx ak ak ak (λw=>Tn s f.at_ f.size w) ?_⟩
   repeat (first|go_skip|(with_reducible apply dh)|go_values|go_guarded|go_step|go_upon)
   refine ⟨gq (cs':=(iL ⟨ra,rn,rc,⟨s,f.at_,f.size⟩⟩).toArray) hS ah ak ah cZ bI au ah ?_⟩;intro wS hT;clear hS g34 g35
   repeat (first|go_skip|(with_reducible apply sD 5)|go_values|go_guarded|go_step|go_upon)
   refine ⟨?_⟩;have hG:World.cell? _ ⟨p,2,none⟩=some (.pointer (some ⟨kp,0,none⟩))/\World.rangeAt _ b5 1 (aA f.e.key)/\World.rangeAt _ b6 0 (iL ⟨ra,rn,rc,⟨s,f.at_,f.size⟩⟩):=⟨hT.cellP iO 2 rfl,λj v hj=>hT.cellP eH (1+j) (nI j v hj),λj v hj=>hT.cellP aU (0+j) (by rw [ad8,ace];exact hj)⟩;refine dN [8] (λw'=>w'.cell? ⟨p,2,none⟩=some (.pointer (some ⟨kp,0,none⟩))/\w'.rangeAt b5 1 (aA f.e.key)/\w'.rangeAt b6 0 (iL ⟨ra,rn,rc,⟨s,f.at_,f.size⟩⟩)) au ?_;refine rP 0 ?_ (y:=aZ);refine rP 1 ?_ (y:=dW);refine rP 2 ?_ (y:=bY);refine rt 3 (h:=?_);refine rP 4 ?_ (y:=bY);refine rP 5 ?_ (y:=bY);refine gK 6 ak au bV (jh (b:=b5) (o:=1) (aA f.e.key) ah underlying50 rfl yG0 (λw hw=>hw.2.1)) aQ gQ ?_;refine gK 7 ak au bV (jh (b:=b6) (o:=0) (iL ⟨ra,rn,rc,⟨s,f.at_,f.size⟩⟩) ah underlying202 rfl au (λw hw=>hw.2.2)) aQ gQ ?_;clear hG
   refine bW 8 ak au (λK hK=>?_)
   (refine wL au ak ak ak ?_)
   refine (ak2 (adt HB.o aN) Hk.o ⟨ra,rn,rc,⟨s,f.at_,f.size⟩⟩ (hT.drew.sb:Sat w0 _ (dG kp mm B::pt b6 (.cells (iL ⟨ra,rn,rc,⟨s,f.at_,f.size⟩⟩).toArray 202 (0,0))::pt b5 (.cells (gV f (.slice da dn dc)) 54 (0,0))::dL p N lv kp ip gb::dK lX::F))).mono ?_;rintro ee wU ⟨v,rfl,hU⟩;refine hK _ _ (.inl rfl) ?_;clear hK hT;refine dH au ?_;go_wp2_with fail
   (try simp only [Exit.inBlock,Exit.then]);refine bodyPost_ret (results_none rfl _ _ _) rfl ?_
   refine ⟨_,rfl,_,_,?_,hU.sb⟩;have h1:=mW.put (k:=f.e.key) (pl:=⟨s,f.at_,f.size⟩) Vz.o.1 Vz.o.2;exact h1
end
abbrev Fs:=List (aj.dD×Value)
abbrev Sg:=Int×Fs×Value
def kC (y:Sg):List aj.dD:=y.2.1.map (·.1)
def eP (y:Sg):List Value:=[.int .i64 y.1,y.2.2,.int .i64 (aO.pay (kC y))]
theorem AZ (y:Sg):(eP y).length=3:=rfl
def fC (ys:List Sg):aG:=stars (ys.flatMap λy=>[aC 54 36 y.2.2 (jO y.2.1),lI y.2.1])
section
variable {ys:List Sg}{y:Sg}
theorem afF (h:Sat w0 w (aC 54 36 y.2.2 (jO y.2.1)::lI y.2.1::fC ys::F)):Sat w0 w (fC (y::ys)::F):=
 Sat.star.2 ((Sat.star.2 (h.sb:Sat w0 w (lI y.2.1::fC ys::aC 54 36 y.2.2 (jO y.2.1)::F))).sb)
theorem WC {A:aG} (hq:y∈ys) (hA:A=aC 54 36 y.2.2 (jO y.2.1)\/A=lI y.2.1) (h:Sat w0 w (fC ys::F)):∃ G,Sat w0 w (A::G):=by
 obtain ⟨G,hG⟩:=Ls (ys.flatMap λy=>[aC 54 36 y.2.2 (jO y.2.1),lI y.2.1]) A (ajc.2 ⟨y,hq,by rcases hA with rfl|rfl <;> simp⟩);unfold fC at h;rw [hG]at h;exact ⟨_,Sat.star.1 h⟩
theorem WE (hq:y∈ys) (h:Sat w0 w (fC ys::F)):bF 36 y.2.2 (jO y.2.1) w:=by
 obtain ⟨G,hG⟩:=WC hq (.inl rfl) h;exact Sat.rd hG
theorem Ox {f:aj.dD}{dv:Value} (hq:y∈ys) (hf:(f,dv)∈y.2.1) (h:Sat w0 w (fC ys::F)):∃ a n c,dv=.slice a n c/\n=f.e.data.length/\bF 1 dv (aA f.e.data) w:=by
 obtain ⟨G,hG⟩:=WC hq (.inr rfl) h;obtain ⟨i,hi⟩:=apI hf;have r:=Jh hi w hG;obtain ⟨a,n,c,e,hn,_⟩:=r;have h2:f.e.data.length=n*1:=by rw [<-aX];exact hn
 exact ⟨a,n,c,e,by omega,Jh hi w hG⟩
variable {m:Nat}
theorem SL (h:Sat w0 w (aY r m seg p ps pn d::F)):Calls prog 13 #[ptr r] w (aP λv w'=>v=ptr p/\w=w'):=by
 have e2:w.cell? ⟨r,2,none⟩=some (.pointer (some ⟨p,0,none⟩)):=h.cellAt 2 _ rfl;have hok:=nZ h;clear h;go_enter func13,ntmps13;go_wp2_with fail;refine hok.mono ?_;rintro ee w1 ⟨v,rfl,rfl,rfl⟩;go_wp2_with fail;go_ret;exact ⟨_,rfl,rfl,rfl⟩
end
section
variable {P:Program}{L:List aG}{ops:Array Oper}{a:Act}{Q:Exit->Act->World->Prop}{dst:Option Tmp}{t ty:TypeId}{pos:String}{after:Array Edge}{K:Act->World->Prop}{E:Prop}
theorem XF (d:TypeDesc) (hs:Sat w0 w L) (hK:∀ b w',Sat w0 w' (omap d b []::L)->K (a.put dst (.map (some b))) w') :
  if Region.wanted ⟨dst,.makeMap ty none,t,pos,after,none⟩ (yielded ops a.tmps)=true then Oper.wp P ⟨dst,.makeMap ty none,t,pos,after,none⟩ a w K Q else E:=by
 refine yj rfl ?_;have hS:=hs.F7 d;unfold Oper.wp execOp;simp only [aoC,ad1,aek,run_makeMap,adu];exact hK _ _ hS
end
section
variable {m:Nat}
theorem agc (h1:∀ u∈xs,u.oneCell'=true) (hl:xs.length<=2147483648) (h:Sat w0 w (aC 45 3 uv xs::F)) :
  Calls prog 44 #[uv] w (aP λv w'=>Sat w0 w' (aC 45 3 v xs::aC 45 3 uv xs::F)):=by
 have H1:=uQ h1;have Hl:=uQ hl;obtain ⟨a,n,c,rfl,hn,hcs⟩:=Sat.rd h;clear h1 hl;cases a with
 |none=>
  have hx:xs=[]:=by
   cases xs with
   |nil=>rfl
   |cons x xs=>obtain ⟨_,e,_⟩:=hcs 0 x rfl;cases e
  subst hx;obtain rfl:n=0:=by simp only [aeL]at hn;omega
  have he:∀ w,(binOp .eql 36 (.slice none 0 c) (.slice none 0 0)).run prog w=.ok (.bool true) w:=λw=>by first|kernel_rfl|rfl
  go_enter func44,ntmps44;go_wp2_with fail;go_ret;exact ⟨_,rfl,Sat.gB.2 h⟩
 |some ad=>
  clear hn hcs;have he:∀ w,(binOp .eql 36 (.slice (some ad) n c) (.slice none 0 0)).run prog w=.ok (.bool false) w:=λw=>by first|kernel_rfl|rfl
  go_enter func44,ntmps44
  go_wp2_with (first
   |((with_reducible refine Om ⟨?_⟩);refine Ux (e:=45) (sz:=3) (eX:=24) au h ?_;intro bN wN hN)
   |(with_reducible apply lH))
  refine ⟨Uu 45 3 24 au hN ah ah aU (Sat.rd hN.drop) H1.o (by have:=Hl.o;simp only [aeL];omega) aN ?_⟩;intro v' w' hS;rw [aeu]at hS;go_wp2_with fail;go_ret;exact ⟨_,rfl,hS⟩
theorem an7 (us:List Rep.Use):∀ u∈us.flatMap bG,u.oneCell'=true:=λu hu=>by
 obtain ⟨x,_,hx⟩:=ajc.1 hu;unfold bG at hx;simp only [ad5,ah4,apX]at hx;rcases hx with rfl|rfl|rfl <;> rfl
theorem acf (hB:B<=14000000) (hu:us.length<=65536) (h:Sat w0 w (aY r m seg p ps pn d::cO ps N pi uv tv::aH pi mi B::aC 45 3 uv (us.flatMap bG)::F)) :
  Calls prog 12 #[ptr r] w (aP λv w'=>∃ (q qi:Nat) (vv:Value),v=ptr q/\Sat w0 w' (cO q N qi vv (.slice none 0 0)::aH qi mi B::aC 45 3 vv (us.flatMap bG)::aY r m seg p ps pn d::cO ps N pi uv tv::aH pi mi B::aC 45 3 uv (us.flatMap bG)::F)):=by
 have nP:=uQ (show (us.flatMap bG).length<=2147483648 by rw [jy (k:=3) (λu _=>vP u)];omega);have HB:=uQ hB;have hok:=nZ h;clear hu hB;go_enter func12,ntmps12;go_wp2_with fail;refine hok.mono ?_;rintro ee w1 ⟨v,rfl,rfl,rfl⟩;clear hok;go_wp2_with fail;have h1:=h.drew;clear h;refine dN [23,24,25] (λw'=>w'.cell? ⟨r,3,none⟩=some (.pointer (some ⟨ps,0,none⟩))/\w'.cell? ⟨ps,0,none⟩=some (.int .i64 N)/\w'.cell? ⟨ps,1,none⟩=some (.pointer (some ⟨pi,0,none⟩))/\w'.cell? ⟨ps,2,none⟩=some uv) au ?_;have hG:World.cell? _ ⟨r,3,none⟩=some (.pointer (some ⟨ps,0,none⟩))/\World.cell? _ ⟨ps,0,none⟩=some (.int .i64 N)/\World.cell? _ ⟨ps,1,none⟩=some (.pointer (some ⟨pi,0,none⟩))/\World.cell? _ ⟨ps,2,none⟩=some uv:=⟨h1.cellP aU 3 rfl,h1.cellP bf 0 rfl,h1.cellP bf 1 rfl,h1.cellP bf 2 rfl⟩;refine rP 0 ?_ (y:=aZ)
 refine rP 1 ?_ (y:=dW);refine rP 2 ?_ (y:=bY);refine rt 3 (h:=?_);refine rP 4 ?_ (y:=dW);refine rP 5 ?_ (y:=bY);refine rt 6 (h:=?_);refine rP 7 ?_ (y:=aZ);refine rP 8 ?_ (y:=dW);refine rP 9 ?_ (y:=bY);refine rt 10 (h:=?_);refine rP 11 ?_ (y:=dW);refine rP 12 ?_ (y:=bY);refine rt 13 (h:=?_);refine rP 15 ?_ (y:=aZ);refine rP 16 ?_ (y:=dW);refine rP 17 ?_ (y:=bY);refine rt 18 (h:=?_);refine rP 19 ?_ (y:=dW);refine rP 20 ?_ (y:=bY);refine rt 21 (h:=?_);clear hG;refine bW 14 ak au (λK hK=>?_)
 (refine qF au ak ?_)
 refine (OI HB.o (h1.sb:Sat w0 _ (aH pi mi B::aY r m seg p ps pn d::cO ps N pi uv tv::aC 45 3 uv (us.flatMap bG)::F))).mono ?_;rintro ee w2 ⟨v,rfl,qi,rfl,h2⟩;refine hK _ _ (.inr (.inl ⟨h2.cellP eH 3 rfl,h2.cellP iO 0 rfl,h2.cellP iO 1 rfl,h2.cellP iO 2 rfl⟩)) ?_;clear hK h1;refine bW 22 ak au (λK hK=>?_)
 (refine qF au ak ?_)
 refine (agc (an7 us) nP.o (h2.sb:Sat w0 _ (aC 45 3 uv (us.flatMap bG)::aY r m seg p ps pn d::cO ps N pi uv tv::aH qi mi B::aH pi mi B::F))).mono ?_;rintro ee w3 ⟨vv,rfl,h3⟩;refine hK _ _ (.inr (.inl ⟨h3.cellP eH 3 rfl,h3.cellP iO 0 rfl,h3.cellP iO 1 rfl,h3.cellP iO 2 rfl⟩)) ?_;clear hK h2;obtain ⟨va,vn,vc,rfl,_,_⟩:=Sat.rd h3;refine rp 23 (hy:=yE0) (h:=?_);refine bW 24 ak au (λK hK=>?_);refine Jk (cs:=#[.int .i64 N,ptr qi,.slice va vn vc,.slice none 0 0]) h3 ak ak ?_;intro q w4 h4;refine hK _ _ (.inl rfl) ?_;clear hK h3;refine rP 25 ?_ (y:=iy);refine dH au ?_;go_wp2_with fail;go_ret;exact ⟨_,rfl,q,qi,_,rfl,h4.sb⟩
end
theorem amq (N:Int) (kp ip gb:Nat) (w:World):(Instr.build 144 #[(0,.int .i64 N),(2,ptr kp),(3,ptr ip),(4,.map (some gb))]).run prog w=.ok (.agg #[.int .i64 N,.slice none 0 0,ptr kp,ptr ip,.map (some gb)]) w:=by kernel_rfl
theorem amv (s:Int) (a:Option Addr) (n c:Nat) (w:World):(Instr.build 146 #[(0,.int .i64 s),(1,.slice a n c)]).run prog w=.ok (.agg #[.int .i64 s,.slice a n c,.int .i64 0]) w:=by kernel_rfl
theorem MI:jF prog 146=some (.agg #[.int .i64 0,.slice none 0 0,.int .i64 0]):=by kernel_rfl
theorem aoW:jF prog 45=some (.agg #[.int .i64 0,.int .i64 0,.int .i64 0]):=by kernel_rfl
theorem aoK {P:Program}{ops:Array Oper}{a:Act}{dst:Option Tmp}{ty t:TypeId}{pos:String}{after:Array Edge}{v:Value}{i1 i2 i3 i4:Nat}{x1 x2 x3 x4:Operand}{v1 v2 v3 v4:Value} (h1:a.eval x1=v1) (h2:a.eval x2=v2) (h3:a.eval x3=v3) (h4:a.eval x4=v4) (hr:∀ w,(Instr.build ty #[(i1,v1),(i2,v2),(i3,v3),(i4,v4)]).run P w=.ok v w) :
  Yields P ops ⟨dst,.build ty #[(i1,x1),(i2,x2),(i3,x3),(i4,x4)],t,pos,after,none⟩ v a:=
 .inl ⟨mF _ rfl,λw=>by
  simp only [execOp,aeX,ad7,aeF,h1,h2,h3,h4,ad1,hr,adu,aek]⟩
theorem aon {P:Program}{ops:Array Oper}{Q:Exit->Act->World->Prop}{rest:List Oper}{a:Act}{w:World}{dst:Option Tmp}{ty t:TypeId}{pos:String}{after:Array Edge}{x y:Operand}{vx vy v:Value} (hx:a.eval x=vx) (hy:a.eval y=vy) (hr:∀ w,(Instr.build ty #[(0,vx),(1,vy)]).run P w=.ok v w) (h:wpList P ops Q rest (a.put dst v) w) :
  wpList P ops Q (⟨dst,.build ty #[(0,x),(1,y)],t,pos,after,none⟩::rest) a w:=
 vS (by simp only [aeX,ad7,aeF,hx,hy]) hr h
def IU (ys:List Sg):Prop:=∀ y∈ys,(∀ q∈y.2.1,q.1.e.key.length=32)/\∃ a c,y.2.2=.slice a y.2.1.length c
def ae3 (w0:World) (N:Int) (Bi n:Nat) (mi:aj.Bs->Option Seg.aV) (D:List (Nat×List aj.aI)) (R:List aG) (v:Value) (w':World):Prop:=
 ∃ (b kp ip gb Bk:Nat) (lv:Value) (mm:aj.Bs->Option Rep.jG) (bg:List (Value×List Int)) (ys zs:List Sg),v=.tuple #[ptr b,errno 0]/\(ys.map λy=>(y.1,kC y))=aO.gX D/\IU ys/\(∀ y∈ys,y∈zs)/\mW mm (aO.lu (aO.jY (aO.gX D))) bg/\Bk<=n/\Sat w0 w' (dL b N lv kp ip gb::aC 146 3 lv (ys.flatMap eP)::fC zs::dG kp mm Bk::dK bg:: omap (.int .i64) gb []::aH ip mi Bi::R)
section
variable {m K r0 E n:Nat}{L:Seg.Log}{M:ay}{D:List (Nat×List aj.aI)}
theorem agq (hR:Seg.gI K r0 E B n L M D) (hn:n<=1000) (hus:us.map (·.seg)=D.map λd=>(d.1:Int)) (qg:Bi<=14000000) (hH:Ro w0 F Half)
  (h:Sat w0 w (aY r m seg p ps pn d::cO ps N pi uv tv::aH pi mi Bi::aC 45 3 uv (us.flatMap bG)::aK p m L::aJ m M::F)) :
  Calls prog 70 #[ptr r] w (aP λv w'=>ae3 w0 N Bi n mi D (aY r m seg p ps pn d::cO ps N pi uv tv::aH pi mi Bi::aC 45 3 uv (us.flatMap bG)::aK p m L::aJ m M::F) v w'):=by
 have hu:us.length=D.length:=by
  have h1:=aey List.length hus
  rwa [aa4,aa4]at h1
 have hst:=acf (F:=aK p m L::aJ m M::F) qg (adt (Nat.le_of_eq hu) (adt hR.hd.count oQ)) h;have HR:=uQ hR;have Hn:=uQ hn;have Hu:=uQ hu;have zJ:=uQ hus;have H7:=uQ qg;have HH:=uQ hH;clear hR hn hu hus qg hH h;go_enter func70,ntmps70;go_wp2_with fail;refine hst.mono ?_;rintro ee w1 ⟨v,rfl,q,qi,vv,rfl,h1⟩;clear hst;go_wp2_with fail;have h2:=h1.drew;clear h1;have hG:World.cell? _ ⟨q,0,none⟩=some (.int .i64 N)/\World.cell? _ ⟨q,1,none⟩=some (ptr qi):=⟨h2.cellP aU 0 rfl,h2.cellP aU 1 rfl⟩;refine dN [10,11,12] (λw'=>w'.cell? ⟨q,0,none⟩=some (.int .i64 N)/\w'.cell? ⟨q,1,none⟩=some (ptr qi)) au ?_;refine rP 0 ?_ (y:=aZ);refine rP 1 ?_ (y:=dW);refine rP 2 ?_ (y:=bY);refine rt 3 (h:=?_);refine rP 5 ?_ (y:=aZ);refine rP 6 ?_ (y:=dW);refine rP 7 ?_ (y:=bY);refine rt 8 (h:=?_);clear hG;refine sO 4 9 ak ak au (λK hK=>?_) (λK hK=>?_)
 focus
  refine yh [] au yF0 ?_;refine (aaA h2).mono ?_;rintro ee w3 ⟨v,rfl,kp,rfl,h3⟩;refine hK _ _ (.inr (.inl ⟨h3.cellP bf 0 rfl,h3.cellP bf 1 rfl⟩)) ?_;clear hK h2;refine bW 9 ak au (λK hK=>?_);refine XF (.int .i64) h3 ?_;intro gb w4 h4;refine hK _ _ (.inr (.inl ⟨h4.cellP eH 0 rfl,h4.cellP eH 1 rfl⟩)) ?_;clear hK h3;have hB:=h4;clear h4
 rotate_left
 focus
  refine XF (.int .i64) h2 ?_;intro gb w3 h3;refine hK _ _ (.inr (.inl ⟨h3.cellP bf 0 rfl,h3.cellP bf 1 rfl⟩)) ?_;clear hK h2;refine bW 4 ak au (λK hK=>?_);refine yh [] au yF0 ?_;refine (aaA h3).mono ?_;rintro ee w4 ⟨v,rfl,kp,rfl,h4⟩;refine hK _ _ (.inr (.inl ⟨h4.cellP eH 0 rfl,h4.cellP eH 1 rfl⟩)) ?_;clear hK h3;have hB:=(h4.sb:Sat w0 w4 (omap (.int .i64) gb []::dG kp (λ_=>none) 0::cO q N qi vv (.slice none 0 0)::aH qi mi Bi::aC 45 3 vv (us.flatMap bG)::aY r m seg p ps pn d::cO ps N pi uv tv::aH pi mi Bi::aC 45 3 uv (us.flatMap bG)::aK p m L::aJ m M::F));clear h4
 all_goals
  refine rP 10 ?_ (y:=(aoK ak ak ak ak (λw=>amq N kp qi gb w)));refine bW 11 ak au (λK hK=>?_);refine Jk (cs:=#[.int .i64 N,.slice none 0 0,ptr kp,ptr qi,.map (some gb)]) hB ak ak ?_;intro b w5 h5;refine hK _ _ (.inl rfl) ?_;clear hK hB;refine rP 12 ?_ (y:=iy);refine dH au ?_;obtain ⟨va,vc,rfl⟩:=jK (f:=bG) (k:=3) (l:=us) (λu _=>vP u) (Sat.rd (h5.pk (A:=aC 45 3 vv (us.flatMap bG)))) aN;have e32:=h5.cellP iO 2 rfl;obtain ⟨G,Hg,HHG⟩:∃ G,Hid (G=cO ps N pi uv tv::aH pi mi Bi::aC 45 3 uv (us.flatMap bG)::F)/\Hid (Ro w0 G Half):=⟨_,uQ rfl,uQ (Ro.os HH.o)⟩;have h6:Sat w0 w5 (dL b N (.slice none 0 0) kp qi gb::aC 146 3 (.slice none 0 0) (([]:List Sg).flatMap eP)::fC []::dG kp (λ_=>none) 0::dK []::omap (.int .i64) gb []::aH qi mi Bi::aC 45 3 (.slice va us.length vc) (us.flatMap bG)::aK p m L::aJ m M::aY r m seg p ps pn d::G):=by
   rw [Hg.o];have q0:Sat w0 w5 (aC 146 3 (.slice none 0 0) (([]:List Sg).flatMap eP)::fC []::dK []::dL b N (.slice none 0 0) kp qi gb::omap (.int .i64) gb []::dG kp (λ_=>none) 0::cO q N qi (.slice va us.length vc) (.slice none 0 0)::aH qi mi Bi::aC 45 3 (.slice va us.length vc) (us.flatMap bG)::aY r m seg p ps pn d::cO ps N pi uv tv::aH pi mi Bi::aC 45 3 uv (us.flatMap bG)::aK p m L::aJ m M::F):=Sat.gB.2 (Sat.emp.2 (Sat.emp.2 h5));exact q0.sb
  clear h5;go_wp2_with fail;clear e32
  go_loopg [34] us.length (λg iq wr=>∃ (i Bk:Nat) (lv:Value) (mm:aj.Bs->Option Rep.jG) (bg:List (Value×List Int)) (ys zs:List Sg),g=us.length-i/\i<=us.length/\iq=.int .i64 i/\(ys.map λy=>(y.1,kC y))=(aO.gX D).take i/\IU ys/\(∀ y∈ys,y∈zs)/\mW mm (aO.lu (aO.jY ((aO.gX D).take i))) bg/\Bk<=(aO.jY ((aO.gX D).take i)).length/\Sat w0 wr (dL b N lv kp qi gb::aC 146 3 lv (ys.flatMap eP)::fC zs::dG kp mm Bk::dK bg::omap (.int .i64) gb []::aH qi mi Bi::aC 45 3 (.slice va us.length vc) (us.flatMap bG)::aK p m L::aJ m M::aY r m seg p ps pn d::G))
  case atStart=>exact ⟨0,0,.slice none 0 0,_,[],[],[],rfl,aea _,rfl,rfl,(λ_ h=>nomatch h),(λ_ h=>nomatch h),mW.new,abl _,h6⟩
  case round=>
   obtain ⟨i,Bk,lv,mm,bg,ys,zs,rfl,hi,rfl,hys,hok,hyz,hko,CB,hS⟩:=hrel;clear h6;by_cases hlt:i<us.length;rotate_left
   focus
    obtain rfl:i=us.length:=by omega
    have c1:¬ (us.length:Int)<(us.length:Int):=oQ;have hal:(aO.gX D).take us.length=aO.gX D:=by rw [Hu.o,<-aO.Lm (D:=D),aeo]
    rw [hal]at hys hko CB;have Hr:=uQ (And.intro hys (And.intro hok (And.intro hyz (And.intro hko CB))));clear hys hok hyz hko CB hi hlt hal;go_wp2_with fail
    go_ret2
    obtain ⟨k1,k2,k3,k4,k5⟩:=Hr.o;refine ⟨_,rfl,b,kp,qi,gb,Bk,lv,mm,bg,ys,zs,rfl,k1,k2,k3,k4,?_,?_⟩
    ·rw [aO.SE]at k5;exact adt k5 HR.o.few
    ·rw [Hg.o]at hS;exact hS.sb
   have c1:(i:Int)<(us.length:Int):=oQ;have hwi:IntKind.i64.wrap ((i:Int)+1)=(i:Int)+1:=adr _ (by have:=Hu.o;have:=HR.o.hd.count;have:=Hn.o;omega);obtain ⟨u,hiu⟩:∃ u,us[i]?=some u:=⟨_,aay hlt⟩;obtain ⟨⟨sn,es⟩,hie⟩:∃ d,D[i]?=some d:=⟨_,aay (by rw [<-Hu.o];exact hlt)⟩;have hdm:=abA hie;have hus:u.seg=(sn:Int):=by
    have h1:=aey (λl:List Int=>l[i]?) zJ.o;simp only [adW,hiu,hie,afW]at h1;exact ai2 h1
   obtain ⟨aoe,zl,y9⟩:=u;obtain rfl:aoe=(sn:Int):=hus;obtain ⟨bk,off,c2,e2,hcell⟩:=jd (f:=bG) (k:=3) (λu _=>vP u) (Sat.rd (hS.pk (A:=aC 45 3 (.slice va us.length vc) (us.flatMap bG)))) hiu aN;cases e2;have Vb:=uQ hie;have bT:=uQ hlt;have nD:=uQ (And.intro hys (And.intro hok (And.intro hyz (And.intro hko CB))));have hby:=λ(w2:World) (R:List aG) (hw:Sat w0 w2 (aK p m L::aJ m M::R))=>Qr HR.o.hd.keeps.log HR.o.hd.keeps.calm.ok (sn:Int) hw;rw [HR.o.hd.bytes hdm]at hby;have U1:=uQ hby;have hbl:=Seg.Jc (L:=L) HR.o.hd.keeps.calm.ok (sn:Int);rw [HR.o.hd.bytes hdm]at hbl;have oz:=uQ hbl;have YV:(Seg.mag++aj.encs es).length<=16777216:=hbl;have vZ:=uQ (aj.Le es (HR.o.hd.good _ hdm).1);clear hys hok hyz hko CB hi hiu hby hie hlt hbl hdm;have Ef:=uQ (show (aj.encs es).length<=16777216 by rw [aaL]at YV;omega);clear YV;generalize Seg.mag++aj.encs es=bl at U1 oz vZ
   go_wp2_with (first
    |((with_reducible refine bP ⟨?_⟩);refine iR (b:=bk) (o:=off+i*3) (bG ⟨(sn:Int),zl,y9⟩) ah hcell underlying45 rfl au ?_)
    |(with_reducible apply fB))
   refine ⟨eF aoW hS rfl ?_⟩;intro b7 w7 h7;clear hcell hS;go_wp2_with ((with_reducible refine dh ⟨?_⟩);refine fP (bG ⟨(sn:Int),zl,y9⟩).toArray h7 ah ah ah cZ au ah ?_;intro w8 h8);have h9:=h8.drew;clear h7 h8;have hG:World.cell? _ ⟨b7,0,none⟩=some (.int .i64 (sn:Int)):=h9.cellP aU 0 rfl;refine dN [4,5,6,7,8,9] (λw'=>w'.cell? ⟨b7,0,none⟩=some (.int .i64 (sn:Int))) au ?_;refine rP 0 ?_ (y:=aZ);refine rP 2 ?_ (y:=bY);refine rt 3 (h:=?_);refine bW 1 ak au (λK hK=>?_)
   (refine qF au ak ?_)
   refine (SL (h9.sb:Sat w0 _ (aY r m seg p ps pn d::pt b7 (.cells (bG ⟨(sn:Int),zl,y9⟩).toArray 45 (0,0))::G))).mono ?_;rintro ee w10 ⟨v,rfl,rfl,rfl⟩;refine hK _ _ (.inr (.inl hG)) ?_;clear hK hG;refine bW 4 ak au (λK hK=>?_)
   (refine iC au ak ak ?_)
   refine (U1.o _ _ (h9.sb:Sat w0 _ (aK p m L::aJ m M::pt b7 (.cells (bG ⟨(sn:Int),zl,y9⟩).toArray 45 (0,0))::dL b N lv kp qi gb::aC 146 3 lv (ys.flatMap eP)::fC zs::dG kp mm Bk::dK bg::omap (.int .i64) gb []::aH qi mi Bi::aC 45 3 (.slice (some ⟨bk,off,none⟩) us.length vc) (us.flatMap bG)::aY r m seg p ps pn d::G))).mono ?_;rintro ee iH ⟨v,rfl,bv,rfl,h11⟩;refine hK _ _ (.inl rfl) ?_;clear hK h9;refine rP 5 ?_ (y:=aZ);refine rP 6 ?_ (y:=(iF ak dw));refine rP 7 ?_ (y:=(iF ak dw));refine rP 8 ?_ (y:=iy);refine rP 9 ?_ (y:=iy);refine dH au ?_;obtain ⟨hcap,ca,cc,rfl⟩:=Oz h11;have hsc:=O9 bl (Ro.bQ _ _) hcap (Ro.os HHG.o) (adt oz.o aN) h11;rw [vZ.o]at hsc;clear hcap h11
   repeat (first|go_skip|fail|go_values|go_guarded|go_step|go_upon)
   refine hsc.mono ?_;rintro ee w12 ⟨v,rfl,fs,fv,hfs,hfk,rfl,h12⟩;clear hsc;obtain ⟨fa,fc,rfl⟩:=O5 hfk h12;have oC:=uQ hfs;have qW:=uQ hfk;clear hfs hfk;dsimp only
   go_wp2_with (first
    |((with_reducible refine bP ⟨?_⟩);refine fZ h12 ah bJ bI ak au ?_)
    |(with_reducible apply y7))
   refine ⟨aon ak ak (λw=>amv (sn:Int) fa fs.length fc w) ?_⟩;go_wp2_with (with_reducible apply fB);refine ⟨eF MI h12 rfl ?_⟩;intro b12 jM h13;go_wp2_with ((with_reducible refine dh ⟨?_⟩);refine fP #[.int .i64 (sn:Int),.slice fa fs.length fc,.int .i64 0] h13 ah ah ah cZ au ah ?_;intro kT iM);have hfl:fs.length<=16777216:=by
    have h1:=aj.Tz bl;rw [vZ.o]at h1;have h2:=aey List.length oC.o;rw [aa4]at h2;dsimp only at h1;have:=oz.o;omega
   have sV:=uQ hfl
   have Ii:=uQ (show (aO.jY ((aO.gX D).take i)).length+fs.length<=n by
    have h1:=aO.alS (aO.gX D) (i+1);rw [aO.SE,aeK,aO.TD Vb.o,afw,aO.SG,aaL,aa4]at h1;have h2:=aey List.length oC.o;rw [aa4]at h2;have h3:=HR.o.few;dsimp only at h1 h2;omega)
   have h15:Sat w0 kT (pt b12 (.cells #[.int .i64 (sn:Int),.slice fa fs.length fc,.int .i64 (aO.pay ((fs.take 0).map (·.1)))] 146 (0,0))::dG kp mm Bk::dK bg::dL b N lv kp qi gb::pt b7 (.cells (bG ⟨(sn:Int),zl,y9⟩).toArray 45 (0,0))::aC 54 36 (.slice fa fs.length fc) (jO fs)::lI fs::aC 146 3 lv (ys.flatMap eP)::fC zs::omap (.int .i64) gb []::aH qi mi Bi::aC 45 3 (.slice (some ⟨bk,off,none⟩) us.length vc) (us.flatMap bG)::aK p m L::aJ m M::aY r m seg p ps pn d::G):=iM.sb;clear h12 h13 iM hfl;go_wp2_with fail
   go_loopg [63] fs.length (λg jq wr=>∃ (j Bj:Nat) (wR:aj.Bs->Option Rep.jG) (lX:List (Value×List Int)),g=fs.length-j/\j<=fs.length/\jq=.int .i64 j/\mW wR (aO.lu (aO.jY ((aO.gX D).take i)++(fs.take j).map λq=>((sn:Int),q.1))) lX/\Bj<=(aO.jY ((aO.gX D).take i)).length+j/\Sat w0 wr (pt b12 (.cells #[.int .i64 (sn:Int),.slice fa fs.length fc,.int .i64 (aO.pay ((fs.take j).map (·.1)))] 146 (0,0))::dG kp wR Bj::dK lX::dL b N lv kp qi gb::pt b7 (.cells (bG ⟨(sn:Int),zl,y9⟩).toArray 45 (0,0))::aC 54 36 (.slice fa fs.length fc) (jO fs)::lI fs::aC 146 3 lv (ys.flatMap eP)::fC zs::omap (.int .i64) gb []::aH qi mi Bi::aC 45 3 (.slice (some ⟨bk,off,none⟩) us.length vc) (us.flatMap bG)::aK p m L::aJ m M::aY r m seg p ps pn d::G))
   case atStart=>exact ⟨0,Bk,mm,bg,rfl,aea _,rfl,by rw [aeO,aeF,adV];exact nD.o.2.2.2.1,nD.o.2.2.2.2,h15⟩
   case round=>
    obtain ⟨j,Bj,wR,lX,rfl,hj,rfl,Fh,JA,hS⟩:=hrel;clear h15;by_cases hjl:j<fs.length;rotate_left
    focus
     obtain rfl:j=fs.length:=by omega
     have d1:¬ (fs.length:Int)<(fs.length:Int):=oQ;clear hjl hj;go_wp2_with fail;rw [aeo]at hS Fh;have zx:=uQ (And.intro Fh JA);have hyl:(ys.flatMap eP).length<=2147483648:=by
      rw [jy (k:=3) (λy _=>AZ y)];have h1:=aey List.length nD.o.1;rw [aa4,ads,aO.Lm]at h1;have:=HR.o.hd.count;have:=Hn.o;omega
     have IL:=uQ hyl;clear Fh JA hyl;have hG:World.cell? _ ⟨b,1,none⟩=some lv/\World.rangeAt _ b12 0 [.int .i64 (sn:Int),.slice fa fs.length fc,.int .i64 (aO.pay (fs.map (·.1)))]:=⟨hS.cellP iO 1 rfl,λk v hk=>hS.cellP aU (0+k) (by rw [ad8,ace];exact hk)⟩;refine dN [7,8,9,10] (λw'=>w'.cell? ⟨b,1,none⟩=some lv/\w'.rangeAt b12 0 [.int .i64 (sn:Int),.slice fa fs.length fc,.int .i64 (aO.pay (fs.map (·.1)))]) au ?_;refine rP 0 ?_ (y:=aZ);refine rP 1 ?_ (y:=aZ);refine rP 2 ?_ (y:=dW);refine rP 3 ?_ (y:=bY);refine rt 4 (h:=?_);refine gK 5 ak au bV (jh (b:=b12) (o:=0) [.int .i64 (sn:Int),.slice fa fs.length fc,.int .i64 (aO.pay (fs.map (·.1)))] ah underlying146 rfl au (λw hw=>hw.2)) aQ gQ ?_;clear hG;refine bW 6 ak au (λK hK=>?_)
     refine OV (e:=146) (sz:=3) (eX:=40) au hS.drew ak (cs:=#[.int .i64 (sn:Int),.slice fa fs.length fc,.int .i64 (aO.pay (fs.map (·.1)))]) rfl rfl aN ?_;intro bN wN hN;refine hK _ _ (.inr (.inl ⟨hN.cellP rH 1 rfl,λk v hk=>hN.cellP bf (0+k) (by rw [ad8,ace];exact hk)⟩)) ?_;clear hK hS;refine bW 7 ak au (λK hK=>?_);refine OU 146 3 40 au hN ak ak bJ bJ rfl (abl 1) rfl IL.o bI bI (ys:=eP ((sn:Int),fs,Value.slice fa fs.length fc)) rfl ?_;intro bA nA cA wA hA;refine hK _ _ (.inl rfl) ?_;clear hK hN;refine rP 8 ?_ (y:=dW);refine rP 9 ?_ (y:=bY);refine bW 10 ak au (λK hK=>?_);refine kQ (cs':=#[.int .i64 N,.slice (some ⟨bA,0,none⟩) nA cA,ptr kp,ptr qi,.map (some gb)]) hA ak ak ah (ku (ku (ku (ku cZ)))) bI au ah ?_;intro wE hE;refine hK _ _ (.inl rfl) ?_;clear hK hA;refine dH au ?_
     have hF:Sat w0 wE (dL b N (.slice (some ⟨bA,0,none⟩) nA cA) kp qi gb::aC 146 3 (.slice (some ⟨bA,0,none⟩) nA cA) ((ys++[((sn:Int),fs,Value.slice fa fs.length fc)]).flatMap eP)::fC (((sn:Int),fs,Value.slice fa fs.length fc)::zs)::dG kp wR Bj::dK lX::omap (.int .i64) gb []::aH qi mi Bi::aC 45 3 (.slice (some ⟨bk,off,none⟩) us.length vc) (us.flatMap bG)::aK p m L::aJ m M::aY r m seg p ps pn d::G):=by
      rw [aeB,ael,ajb,adV];have q0:Sat w0 wE (aC 54 36 (.slice fa fs.length fc) (jO fs)::lI fs::fC zs::dL b N (.slice (some ⟨bA,0,none⟩) nA cA) kp qi gb::aC 146 3 (.slice (some ⟨bA,0,none⟩) nA cA) (ys.flatMap eP++eP ((sn:Int),fs,Value.slice fa fs.length fc))::dG kp wR Bj::dK lX::omap (.int .i64) gb []::aH qi mi Bi::aC 45 3 (.slice (some ⟨bk,off,none⟩) us.length vc) (us.flatMap bG)::aK p m L::aJ m M::aY r m seg p ps pn d::G):=hE.sb;exact (afF (y:=((sn:Int),fs,Value.slice fa fs.length fc)) q0).sb
     clear hE;have eG:=uQ (show (aO.gX D).take (i+1)=(aO.gX D).take i++[((sn:Int),fs.map (·.1))] by rw [aeK,aO.TD Vb.o,afw,oC.o]);go_wp2_with fail
     go_roundg (us.length-(i+1))
     case measure=>have:=bT.o;omega
     case rel=>
      obtain ⟨k1,k2,k3,k4,k5⟩:=nD.o;obtain ⟨k6,k7⟩:=zx.o;refine ⟨i+1,Bj,_,wR,lX,_,_,rfl,bT.o,by first|rfl|go_num,?_,?_,?_,?_,?_,hF⟩
      ·rw [eG.o,adU,k1];rfl
      ·intro y hy;rcases aeg.1 hy with hy|hy
       ·exact k2 y hy
       ·rw [adZ]at hy;subst hy;exact ⟨qW.o,_,_,rfl⟩
      ·intro y hy;rcases aeg.1 hy with hy|hy
       ·exact List.mem_cons_of_mem _ (k3 y hy)
       ·rw [adZ]at hy;subst hy;exact List.mem_cons_self ..
      ·rw [eG.o,aO.SG];dsimp only;rw [aeW];exact k6
      ·rw [eG.o,aO.SG,aaL,aa4,aa4];exact k7
    have d1:(j:Int)<(fs.length:Int):=oQ;have CP:IntKind.i64.wrap ((j:Int)+1)=(j:Int)+1:=adr _ (by have:=sV.o;omega);obtain ⟨⟨f,dv⟩,hq⟩:∃ q,fs[j]?=some q:=⟨_,aay hjl⟩;have qh:f.e.key.length=32:=qW.o _ (abA hq);obtain ⟨da,dn,dc,rfl,_,_⟩:=Jh hq wr (hS.pk (A:=lI fs));obtain ⟨bk2,off2,c2,e2,hcell⟩:=jd (f:=λq:aj.dD×Value=>nT q.1 q.2) (k:=36) (λq hq=>tK q.1 q.2 (qW.o q hq)) (Sat.rd (hS.pk (A:=aC 54 36 (.slice fa fs.length fc) (jO fs)))) hq aN;cases e2;have Aj:(nT f (.slice da dn dc)).length=36:=tK _ _ qh;have wo:=uQ (show fs.take (j+1)=fs.take j++[(f,Value.slice da dn dc)] by rw [aeK,hq,afw]);have kK:=uQ hjl;have lG:=uQ qh;have zx:=uQ (And.intro Fh JA);clear hq qh hj hjl Fh JA
    go_wp2_with (first
     |((with_reducible refine bP ⟨?_⟩);refine iR (b:=bk2) (o:=off2+j*36) (nT f (.slice da dn dc)) ah hcell underlying54 rfl (by rw [Aj];kernel_rfl) ?_)
     |(with_reducible apply fB))
    refine ⟨eF G5 hS rfl ?_⟩;intro b14 Ur h30;clear hcell hS;go_wp2_with (with_reducible apply dh);refine ⟨fP (gV f (.slice da dn dc)) h30 ah ah (by rw [pq _ _ lG.o];rfl) cZ yO0 (EW _ _ _ _) ?_⟩;intro GU h31
    repeat (first|go_skip|(with_reducible apply sD 16)|go_values|go_guarded|go_step|go_upon)
    refine ⟨?_⟩;clear h30;obtain ⟨e34,e35,nI⟩:=EX f (.slice da dn dc) lG.o;have f0:GU.cell? ⟨b14,0,none⟩=some (.int .i64 f.e.tag):=h31.cellP aU 0 rfl;have f35:GU.cell? ⟨b14,35,none⟩=some (.int .i64 (f.size:Int)):=h31.cellP aU 35 e35
    have zG:=uQ (show 0<=aO.pay ((fs.take j).map (·.1))/\aO.pay ((fs.take j).map (·.1))+(f.size:Int)<=((aj.encs es).length:Int) by
     have hq:(aj.dI es 8)[j]?=some f:=by
      have h1:=aey (λl=>l[j]?) oC.o;rw [<-h1,adW,<-apC (Nat.lt_succ_self j),wo.o,aeh (by rw [ads];exact Nat.min_le_left ..),ads,ap1 (Nat.le_of_lt kK.o),ajN]
      rfl
     have h2:=aO.abh es 8 j f hq;rw [aoU,oC.o];exact h2)
    obtain ⟨py,hpy⟩:∃ py,aO.pay ((fs.take j).map (·.1))=py:=⟨_,rfl⟩;rw [hpy]at zG h31;have UR:=uQ hpy;clear hpy;have f12:GU.cell? ⟨b12,2,none⟩=some (.int .i64 py):=h31.cellP bf 2 rfl;have hwp:IntKind.i64.wrap (py+(f.size:Int))=py+(f.size:Int):=adr _ (by have:=zG.o;have:=Ef.o;omega);clear e34 e35 nI;by_cases ht:f.e.tag=2
    focus
     have hb:(f.e.tag != 2)=false:=by rw [ht];rfl
     have Hr:=uQ (show aO.lu (aO.jY ((aO.gX D).take i)++(fs.take (j+1)).map λq=>((sn:Int),q.1))=aO.lu (aO.jY ((aO.gX D).take i)++(fs.take j).map λq=>((sn:Int),q.1)) by
      rw [wo.o,adU,<-adQ];show aO.lu (_++[((sn:Int),f)])=_;rw [aO.ZR];exact acg ht)
     have hG:Sat w0 GU (pt b12 (.cells #[.int .i64 (sn:Int),.slice (some ⟨bk2,off2,none⟩) fs.length fc,.int .i64 (aO.pay ((fs.take (j+1)).map (·.1)))] 146 (0,0))::dG kp wR Bj::dK lX::dL b N lv kp qi gb::pt b7 (.cells (bG ⟨(sn:Int),zl,y9⟩).toArray 45 (0,0))::aC 54 36 (.slice (some ⟨bk2,off2,none⟩) fs.length fc) (jO fs)::lI fs::aC 146 3 lv (ys.flatMap eP)::fC zs::omap (.int .i64) gb []::aH qi mi Bi::aC 45 3 (.slice (some ⟨bk,off,none⟩) us.length vc) (us.flatMap bG)::aK p m L::aJ m M::aY r m seg p ps pn d::G):=by
      rw [wo.o,adU,ad7,aeF,aO.Rj,acg ht,Int.add_zero,UR.o];exact h31.sb
     clear ht h31;go_wp2_with fail
     go_roundg (fs.length-(j+1))
     case measure=>have:=kK.o;omega
     case rel=>exact ⟨j+1,Bj,wR,lX,rfl,kK.o,by first|rfl|go_num,by rw [Hr.o];exact zx.o.1,Nat.le_succ_of_le zx.o.2,hG⟩
    have hb:(f.e.tag != 2)=true:=afZ.2 ht
    have Hr:=uQ (show aO.lu (aO.jY ((aO.gX D).take i)++(fs.take (j+1)).map λq=>((sn:Int),q.1))=aO.Gv (aO.lu (aO.jY ((aO.gX D).take i)++(fs.take j).map λq=>((sn:Int),q.1))) ((sn:Int),f) by
     rw [wo.o,adU,<-adQ];show aO.lu (_++[((sn:Int),f)])=_;rw [aO.ZR];exact abj ht)
    have zF:=uQ (show aO.pay ((fs.take (j+1)).map (·.1))=py+(f.size:Int) by
     rw [wo.o,adU,ad7,aeF,aO.Rj,abj ht,UR.o])
    clear ht;go_wp2_with (with_reducible apply dh);refine ⟨gq (cs':=#[.int .i64 (sn:Int),.slice (some ⟨bk2,off2,none⟩) fs.length fc,.int .i64 (py+(f.size:Int))]) h31 ah ak ah (ku cZ) bI au ah ?_⟩;intro w33 Jv;clear h31 f0 f35 f12 hwp;have f7:w33.cell? ⟨b7,0,none⟩=some (.int .i64 (sn:Int)):=Jv.cellP (aS (aS (aS (aS (aS aU))))) 0 rfl;go_wp2_with ((with_reducible refine bP ⟨?_⟩);refine iQ (cs:=gV f (.slice da dn dc)) Jv ah aU underlying54 rfl yO0 ?_)
    refine (agx (p:=b) (N:=N) (lv:=lv) (ip:=qi) (gb:=gb) (s:=(sn:Int)) (f:=f) lG.o (by have:=zx.o.2;have:=Ii.o;have:=kK.o;have:=Hn.o;omega) zx.o.1 (λk=>by
     have h1:=aO.ZQ (aO.jY ((aO.gX D).take i)++(fs.take j).map λq=>((sn:Int),q.1)) k;rw [aaL,aa4,ads]at h1;have:=Ii.o;have:=kK.o;have:=Hn.o;omega) (Jv.sb:Sat w0 w33 (dL b N lv kp qi gb::dG kp wR Bj::dK lX::pt b12 (.cells #[.int .i64 (sn:Int),.slice (some ⟨bk2,off2,none⟩) fs.length fc,.int .i64 (py+(f.size:Int))] 146 (0,0))::pt b7 (.cells (bG ⟨(sn:Int),zl,y9⟩).toArray 45 (0,0))::aC 54 36 (.slice (some ⟨bk2,off2,none⟩) fs.length fc) (jO fs)::lI fs::aC 146 3 lv (ys.flatMap eP)::fC zs::omap (.int .i64) gb []::aH qi mi Bi::aC 45 3 (.slice (some ⟨bk,off,none⟩) us.length vc) (us.flatMap bG)::aK p m L::aJ m M::aY r m seg p ps pn d::G))).mono ?_
    rintro ee w34 ⟨v,rfl,mm3,bg3,PS,Jw⟩;rw [<-Hr.o]at PS;rw [<-zF.o]at Jw;have Hk3:=uQ PS;clear Jv f7 PS;go_wp2_with fail
    go_roundg (fs.length-(j+1))
    case measure=>have:=kK.o;omega
    case rel=>exact ⟨j+1,Bj+1,mm3,bg3,rfl,kK.o,by first|rfl|go_num,Hk3.o,Nat.succ_le_succ zx.o.2,Jw.sb⟩
end
def fA (gb:Nat) (gs:List Int):aG:=omap (.int .i64) gb (gs.map λg=>(.int .i64 g,.int .i64 1))
theorem Ju (t:Int) (h:Sat w0 w (fA gb gs::F)):(Instr.lookup 142 (.map (some gb)) (.int .i64 t) false).run prog w=.ok (.int .i64 (if gs.contains t then 1 else 0)) w:=by
 rcases Tm (key:= .int .i64 t) underlying142 underlying3 (z:= .int .i64 0) au rfl h with ⟨v,hm,e,_⟩|⟨hn,e,_⟩
 ·obtain ⟨g,hg,e2⟩:=abL.1 hm;cases e2;rw [e,acg (apz.2 hg)]
 ·rw [e,abj];intro hc;exact hn (.int .i64 t,.int .i64 1) (abL.2 ⟨t,apz.1 hc,rfl⟩) rfl
theorem agy {b3 b4 q kp ip:Nat}{N s t:Int}{lv:Value} (h:Sat w0 w (fA gb gs::dL q N lv kp ip gb::pt b3 (.cells #[ptr q] 84 (0,0))::pt b4 (.cells #[.int .i64 s] 3 (0,0))::F)) :
  Calls prog 124 #[.int .i64 t,ptr b4,ptr b3] w (aP λv w'=>v=.bool (decide (t<s) && !gs.contains t)/\w=w'):=by
 have hl:=Ju t h;have e3:w.cell? ⟨b3,0,none⟩=some (ptr q):=h.cellP eH 0 rfl;have e4:w.cell? ⟨b4,0,none⟩=some (.int .i64 s):=h.cellP iO 0 rfl;have eq4:w.cell? ⟨q,4,none⟩=some (.map (some gb)):=h.cellP bf 4 rfl;clear h;obtain ⟨x,hx⟩:∃ x:Bool,(decide (t<s) && !gs.contains t)=x:=⟨_,rfl⟩;have Hx:=uQ hx;rw [hx];clear hx;by_cases hts:t<s;rotate_left
 focus
  have hv:x=false:=by rw [<-Hx.o,ad2 hts,Bool.false_and]
  subst hv;clear hl;have h1:decide (t<s)=false:=ad2 hts;clear hts;go_enter func124,ntmps124;go_wp2_with fail;go_ret;exact ⟨_,rfl,rfl,rfl⟩
 have h1:decide (t<s)=true:=aeb hts;by_cases hc:gs.contains t=true
 focus
  have hv:x=false:=by rw [<-Hx.o,hc,Bool.not_true,Bool.and_false]
  subst hv;rw [acg hc]at hl;clear hts hc;go_enter func124,ntmps124;go_wp2_with ((with_reducible apply Gy);refine ⟨?_⟩;refine y8 (by first|rfl|kernel_rfl) ?_);go_ret;exact ⟨_,rfl,rfl,rfl⟩
 have hv:x=true:=by rw [<-Hx.o,h1,Bool.eq_false_iff.2 hc];rfl
 subst hv;rw [abj hc]at hl;clear hts hc;go_enter func124,ntmps124;go_wp2_with ((with_reducible apply Gy);refine ⟨?_⟩;refine y8 (by first|rfl|kernel_rfl) ?_);go_ret;exact ⟨_,rfl,rfl,rfl⟩
theorem af9 {b3 b4:Nat}{P:Int->Bool}{c:List Int}{sv:Value} (hl:c.length<=1048576) (hr:bF 1 sv (ints c) w)
  (hc:∀ t,Calls prog 124 #[.int .i64 t,ptr b4,ptr b3] w (aP λv w'=>v=.bool (P t)/\w=w')) :
  Calls prog 166 #[sv,.func (.func 124) #[] #[ptr b4,ptr b3]] w (aP λv w'=>∃ i:Int,v=.int .i64 i/\decide (i>=0)=c.any P/\w=w'):=by
 obtain ⟨sa,sc,rfl⟩:=FI hr;have Hl:=uQ hl;have Hr:=uQ hr;have Hc:=uQ hc;clear hl hr hc;go_enter func166,ntmps166;go_wp2_with fail
 go_loopg [8] c.length (λg iq wr=>∃ i:Nat,g=c.length-i/\i<=c.length/\iq=.int .i64 i/\wr=w/\Hid (∀ t∈c.take i,P t=false))
 case atStart=>exact ⟨0,rfl,aea _,rfl,rfl,uQ λt ht=>by cases ht⟩
 case round=>
  obtain ⟨i,rfl,hi,rfl,rfl,Hp⟩:=hrel;by_cases hlt:i<c.length;rotate_left
  focus
   obtain rfl:i=c.length:=by omega
   have hic:¬ (c.length:Int)<(c.length:Int):=oQ
   have bH:=uQ (show decide ((-1:Int)>=0)=c.any P by
    have h1:=Hp.o;rw [aeo]at h1;rw [List.any_eq_false.2 λt ht=>by rw [h1 t ht];decide]
    rfl)
   clear hi hlt Hp;go_wp2_with fail;go_ret;exact ⟨_,rfl,-1,rfl,bH.o,rfl⟩
  obtain ⟨t,ht⟩:∃ t,c[i]?=some t:=⟨_,aay hlt⟩;obtain ⟨bk,off,cc,e,hcell⟩:=tY Hr.o ht;cases e;have hic:(i:Int)<(c.length:Int):=oQ;have hwi:IntKind.i64.wrap ((i:Int)+1)=(i:Int)+1:=adr _ yN0;have Ht:=uQ ht;have bT:=uQ hlt;have hfn:=Hc.o t;clear ht hlt hi;go_wp2_with fail;refine hfn.mono ?_;rintro e w2 ⟨v,rfl,rfl,rfl⟩;clear hfn hcell;cases hP:P t with
  |true=>
   have bH:=uQ (show decide ((i:Int)>=0)=c.any P by
    rw [List.any_eq_true.2 ⟨t,abA Ht.o,hP⟩];exact aeb (Int.natCast_nonneg _))
   clear hP Hp;go_wp2_with fail;go_ret;exact ⟨_,rfl,(i:Int),rfl,bH.o,rfl⟩
  |false=>
   have zF:=uQ (show ∀ u∈c.take (i+1),P u=false by
    intro u hu;rw [aeK,Ht.o,afw]at hu;rcases aeg.1 hu with hu|hu
    ·exact Hp.o u hu
    ·rw [adZ]at hu;rw [hu];exact hP)
   clear hP Hp;go_wp2_with fail
   go_roundg (c.length-(i+1))
   case measure=>have:=bT.o;omega
   case rel=>exact ⟨i+1,rfl,aec bT.o,by first|rfl|go_num,rfl,zF⟩
theorem afY {b3 b4:Nat}{P:Int->Bool}{c:List Int}{sv:Value} (hl:c.length<=1048576) (hr:bF 1 sv (ints c) w)
  (hc:∀ t,Calls prog 124 #[.int .i64 t,ptr b4,ptr b3] w (aP λv w'=>v=.bool (P t)/\w=w')) :
  Calls prog 123 #[sv,.func (.func 124) #[] #[ptr b4,ptr b3]] w (aP λv w'=>v=.bool (c.any P)/\w=w'):=by
 have h1:=af9 hl hr hc;clear hl hr hc;go_enter func123,ntmps123;go_wp2_with fail;refine h1.mono ?_;rintro e w2 ⟨v,rfl,i,rfl,hi,rfl⟩;clear h1;have Hi:=uQ hi;clear hi;go_wp2_with fail;go_ret;exact ⟨_,rfl,by rw [<-Hi.o];rfl,rfl⟩
theorem XW (a b:Seg.aV) (w:World):(binOp .eql 94 (.agg (aW a).toArray) (.agg (aW b).toArray)).run prog w=.ok (.bool (aO.wZ a b)) w:=by
 obtain ⟨a1,a2,c3⟩:=a;obtain ⟨b1,b2,b3⟩:=b;have u3:=underlying3;have a3:=Tryz.isAgg3;have z3:=Tryz.sizeOf3;have hS:prog.underlying 94=some (.struct (prog.fieldsOf 94)):=by kernel_rfl
 have hp:prog.stoodInHeld 94=false:=by kernel_rfl
 rw [run_eql_struct];have e:(Op.equalIn 10000 94 (.agg #[.int .i64 a1,.int .i64 a2,.int .i64 c3]) (.agg #[.int .i64 b1,.int .i64 b2,.int .i64 b3])).run prog w=.ok (a1==b1 && (a2==b2 && c3==b3)) w:=by
  rw [show (10000:Nat)=9999+1 from rfl,run_equalIn_agg w 9999 94 _ _ hS hp];simp only [Program.fieldsOf,underlying94];go_simp;by_cases h1:a1=b1 <;> by_cases h2:a2=b2 <;> by_cases h3:c3=b3 <;> simp [h1,h2,h3]
 rw [show (aW ⟨a1,a2,c3⟩).toArray=#[.int .i64 a1,.int .i64 a2,.int .i64 c3] from rfl,show (aW ⟨b1,b2,b3⟩).toArray=#[.int .i64 b1,.int .i64 b2,.int .i64 b3] from rfl,e]
 rfl
section
variable {s:Int}{f:aj.dD}{da:Option Addr}{dn dc:Nat}
theorem WT (hk:f.e.key.length=32) (hB:B<=13000000) (qg:Bi<=13000000) (hko:mW mm P.keys bg) (hln:∀ k,(aO.iT P.keys k).1.length<=1048576) (hmi:mi=P.index)
  (h:Sat w0 w (fA gb gs::dL q N lv kp ip gb::dG kp mm B::dK bg::aH ip mi Bi::F)) :
  Calls prog 72 #[ptr q,.int .i64 s,.agg (gV f (.slice da dn dc))] w (aP λv w'=>v=.bool (aO.counts P gs s f)/\Sat w0 w' (fA gb gs::dL q N lv kp ip gb::dG kp mm B::dK bg::aH ip mi Bi::F)):=by
 subst hmi;have Hk:=uQ hk;have iK:=uQ (show (aA f.e.key).length=32 by rw [aX,hk]);have HB:=uQ hB;have H7:=uQ qg;have iV:=uQ (hln f.e.key);obtain ⟨ka,kn,kc,hk1,hk2⟩:=hko f.e.key;have Hq:=uQ hk2;have e0:(gV f (.slice da dn dc))[0]?=some (.int .i64 f.e.tag):=rfl;obtain ⟨e34,e35,nI⟩:=EX f (.slice da dn dc) hk;have Hk1:=uQ hk1;obtain ⟨x,hx⟩:∃ x:Bool,aO.counts P gs s f=x:=⟨_,rfl⟩;have Hx:=uQ hx;rw [hx];clear hx hk1 hk2 hk hB qg hko hln;go_enter func72,ntmps72;go_wp2_with (with_reducible apply fD);refine ⟨fE h ak ak ?_⟩;intro b3 w3 h3;go_wp2_with (with_reducible apply fD);refine ⟨fE h3 ak ak ?_⟩;intro b4 w4 h4;go_wp2_with (with_reducible apply fD);refine ⟨fE h4 ak ak ?_⟩;intro b5 w5 h5;clear h h3 h4
 repeat (first|go_skip|(with_reducible apply sD 1)|go_values|go_guarded|go_step|go_upon)
 refine ⟨?_⟩;have h6:Sat w0 w5 (pt b5 (.cells (gV f (.slice da dn dc)) 54 (0,0))::pt b4 (.cells #[.int .i64 s] 3 (0,0))::pt b3 (.cells #[ptr q] 84 (0,0))::fA gb gs::dL q N lv kp ip gb::dG kp mm B::dK bg::aH ip P.index Bi::F):=h5;clear h5;have f0:w5.cell? ⟨b5,0,none⟩=some (.int .i64 f.e.tag):=h6.cellP aU 0 e0;by_cases h2:f.e.tag=2
 focus
  have hb:(f.e.tag==2)=true:=ai5.2 h2;have hxv:x=false:=by rw [<-Hx.o];unfold aO.counts;rw [acg h2]
  subst hxv;clear h2;go_wp2_with fail;go_ret;exact ⟨_,rfl,rfl,h6.sb⟩
 have hb:(f.e.tag==2)=false:=by rw [adX];exact h2
 have H2:=uQ h2;have f34:w5.cell? ⟨b5,34,none⟩=some (.int .i64 (f.at_:Int)):=h6.cellP aU 34 e34;have f35:w5.cell? ⟨b5,35,none⟩=some (.int .i64 (f.size:Int)):=h6.cellP aU 35 e35;have e4:w5.cell? ⟨b4,0,none⟩=some (.int .i64 s):=h6.cellP bf 0 rfl;clear h2
 repeat (first|go_skip|(with_reducible apply y7)|go_values|go_guarded|go_step|go_upon)
 refine ⟨adx ak ak ak (λw=>Tn s f.at_ f.size w) ?_⟩
 repeat (first|go_skip|(with_reducible apply fB)|go_values|go_guarded|go_step|go_upon)
 refine ⟨eF ou h6 rfl ?_⟩;intro b7 w7 h7;clear f0 f34 f35 e4 h6
 repeat (first|go_skip|(with_reducible apply dh)|go_values|go_guarded|go_step|go_upon)
 refine ⟨fP (aW ⟨s,f.at_,f.size⟩).toArray h7 ah ah ah cZ au ah ?_⟩;intro w8 h8;clear h7
 repeat (first|go_skip|(with_reducible apply sD 4)|go_values|go_guarded|go_step|go_upon)
 refine ⟨?_⟩;have f0:w8.cell? ⟨b5,0,none⟩=some (.int .i64 f.e.tag):=h8.cellP bf 0 e0;by_cases ht:f.e.tag=0
 focus
  have hb0:(f.e.tag==0)=true:=ai5.2 ht;have EC:=uQ ht;clear ht
  repeat (first|go_skip|(with_reducible apply sD 5)|go_values|go_guarded|go_step|go_upon)
  refine ⟨?_⟩;have HT:=uQ (λ(w':World) (R:List aG) (hw:Sat w0 w' (aH ip P.index Bi::R))=>Ph (k:=f.e.key) (adt H7.o aN) Hk.o hw);obtain ⟨pl,hpl⟩:∃ pl,(P.index f.e.key).getD Seg.aV.zero=pl:=⟨_,rfl⟩;obtain ⟨ok,hok⟩:∃ ok,(P.index f.e.key).isSome=ok:=⟨_,rfl⟩;have Hpl:=uQ hpl;have dB:=uQ hok;rw [hpl,hok]at HT;clear hpl hok f0;have h9:=h8.drew;have hG:World.cell? _ ⟨b3,0,none⟩=some (ptr q)/\World.cell? _ ⟨q,3,none⟩=some (ptr ip)/\World.rangeAt _ b5 1 (aA f.e.key):=⟨h9.cellP iO 0 rfl,h9.cellP (aS (aS (aS (aS (aS aU))))) 3 rfl,λj v hj=>h9.cellP bf (1+j) (nI j v hj)⟩;clear h8;refine dN [7,8,9,10,12,13] (λw'=>w'.cell? ⟨b3,0,none⟩=some (ptr q)/\w'.cell? ⟨q,3,none⟩=some (ptr ip)/\w'.rangeAt b5 1 (aA f.e.key)) au ?_;refine rt 0 (h:=?_);refine rP 1 ?_ (y:=dW);refine rP 2 ?_ (y:=bY);refine rt 3 (h:=?_);refine rP 4 ?_ (y:=bY)
  refine rP 5 ?_ (y:=bY);refine gK 6 ak au bV (jh (b:=b5) (o:=1) (aA f.e.key) ah underlying50 rfl yG0 (λw hw=>hw.2.2)) aQ gQ ?_;clear hG;refine sO 7 11 ak ak au (λK hK=>?_) (λK hK=>?_)
  focus
   (refine iC au ak ak ?_)
   refine (HT.o _ _ (h9.sb:Sat w0 _ (aH ip P.index Bi::pt b7 (.cells (aW ⟨s,f.at_,f.size⟩).toArray 94 (0,0))::pt b5 (.cells (gV f (.slice da dn dc)) 54 (0,0))::pt b4 (.cells #[.int .i64 s] 3 (0,0))::pt b3 (.cells #[ptr q] 84 (0,0))::fA gb gs::dL q N lv kp ip gb::dG kp mm B::dK bg::F))).mono ?_;rintro ee w10 ⟨v,rfl,rfl,h10⟩;refine hK _ _ (.inl rfl) ?_;clear hK h9;refine rP 8 ?_ (y:=aZ);refine rP 9 ?_ (y:=(iF ak dw));refine rP 10 ?_ (y:=(iF ak dw));refine bW 11 ak au (λK hK=>?_);refine nH (ou) h10 rfl ?_;intro b8 iH h11;refine hK _ _ (.inr (.inl ⟨h11.cellP (aS (aS (aS (aS (aS aU))))) 0 rfl,h11.cellP (aS (aS (aS (aS (aS (aS (aS aU))))))) 3 rfl,λj v hj=>h11.cellP iO (1+j) (nI j v hj)⟩)) ?_;clear hK h10
  rotate_left
  focus
   refine nH (ou) h9 rfl ?_;intro b8 w10 h10;refine hK _ _ (.inr (.inl ⟨h10.cellP rH 0 rfl,h10.cellP (aS (aS (aS (aS (aS (aS aU)))))) 3 rfl,λj v hj=>h10.cellP eH (1+j) (nI j v hj)⟩)) ?_;clear hK h9;refine bW 7 ak au (λK hK=>?_)
   (refine iC au ak ak ?_)
   refine (HT.o _ _ (h10.sb:Sat w0 _ (aH ip P.index Bi::pt b8 (.cells (aW Seg.aV.zero).toArray 94 (0,0))::pt b7 (.cells (aW ⟨s,f.at_,f.size⟩).toArray 94 (0,0))::pt b5 (.cells (gV f (.slice da dn dc)) 54 (0,0))::pt b4 (.cells #[.int .i64 s] 3 (0,0))::pt b3 (.cells #[ptr q] 84 (0,0))::fA gb gs::dL q N lv kp ip gb::dG kp mm B::dK bg::F))).mono ?_;rintro ee iH ⟨v,rfl,rfl,EY⟩;refine hK _ _ (.inl rfl) ?_;clear hK h10;have h11:Sat w0 iH (pt b8 (.cells (aW Seg.aV.zero).toArray 94 (0,0))::aH ip P.index Bi::pt b7 (.cells (aW ⟨s,f.at_,f.size⟩).toArray 94 (0,0))::pt b5 (.cells (gV f (.slice da dn dc)) 54 (0,0))::pt b4 (.cells #[.int .i64 s] 3 (0,0))::pt b3 (.cells #[ptr q] 84 (0,0))::fA gb gs::dL q N lv kp ip gb::dG kp mm B::dK bg::F):=EY.sb;clear EY;refine rP 8 ?_ (y:=aZ);refine rP 9 ?_ (y:=(iF ak dw));refine rP 10 ?_ (y:=(iF ak dw))
  all_goals
   refine bW 12 ak au (λK hK=>?_);refine kQ (cs':=(aW pl).toArray) h11 ak ak ah cZ bI au ah ?_;intro w12 h12;refine hK _ _ (.inl rfl) ?_;clear hK h11;refine rP 13 ?_ (y:=iy);refine dH au ?_;have iw:=uQ (h12.sb:Sat w0 w12 (fA gb gs::dL q N lv kp ip gb::dG kp mm B::dK bg::aH ip P.index Bi::F))
   have qC:=uQ (show x=(ok && aO.wZ pl ⟨s,f.at_,f.size⟩) by
    rw [<-Hx.o,<-Hpl.o,<-dB.o];unfold aO.counts;rw [abj H2.o,acg EC.o];cases P.index f.e.key <;> rfl)
   have heq:=XW pl ⟨s,f.at_,f.size⟩;generalize aO.wZ pl ⟨s,f.at_,f.size⟩=y at *
   clear Hpl dB HT e0 e34 e35 nI;rcases ok with _|_
   focus
    obtain rfl:x=false:=qC.o;clear h12 heq;go_wp2_with fail;go_ret;exact ⟨_,rfl,rfl,iw.o⟩
   obtain rfl:x=y:=by rw [qC.o];rfl
   go_wp2_with (first
    |((with_reducible apply Gy);refine ⟨?_⟩;refine y8 (by first|rfl|kernel_rfl) ?_)
    |((with_reducible refine bP ⟨?_⟩);refine iQ (cs:=(aW pl).toArray) h12 ah aU underlying94 rfl au ?_)
    |((with_reducible refine bP ⟨?_⟩);refine iQ (cs:=(aW ⟨s,f.at_,f.size⟩).toArray) h12 ah eH underlying94 rfl au ?_))
   go_ret;exact ⟨_,rfl,rfl,iw.o⟩
 have hb0:(f.e.tag==0)=false:=by rw [adX];exact ht
 have EC:=uQ ht;clear ht
 repeat (first|go_skip|(with_reducible apply sD 7)|go_values|go_guarded|go_step|go_upon)
 refine ⟨?_⟩;have HT:=uQ (λ(w':World) (R:List aG) (hw:Sat w0 w' (dG kp mm B::R))=>Yu (k:=f.e.key) (adt HB.o aN) Hk.o hw);rw [Hk1.o]at HT;obtain ⟨c,hc⟩:∃ c,(aO.iT P.keys f.e.key).1=c:=⟨_,rfl⟩;obtain ⟨pl,hpl⟩:∃ pl,(aO.iT P.keys f.e.key).2=pl:=⟨_,rfl⟩
 have qC:=uQ (show x=(aO.wZ pl ⟨s,f.at_,f.size⟩ && c.any λt=>decide (t<s) && !gs.contains t) by
  rw [<-Hx.o,<-hc,<-hpl];unfold aO.counts;rw [abj H2.o,abj EC.o])
 rw [hpl]at HT;rw [hc]at Hq iV;generalize (mm f.e.key).isSome=ok at *
 clear hpl hc f0 Hk1 Hx;have h9:=h8.drew;have hG:World.cell? _ ⟨b3,0,none⟩=some (ptr q)/\World.cell? _ ⟨q,2,none⟩=some (ptr kp)/\World.rangeAt _ b5 1 (aA f.e.key):=⟨h9.cellP iO 0 rfl,h9.cellP (aS (aS (aS (aS (aS aU))))) 2 rfl,λj v hj=>h9.cellP bf (1+j) (nI j v hj)⟩;clear h8;refine dN [7,8,9,10,12,13] (λw'=>w'.cell? ⟨b3,0,none⟩=some (ptr q)/\w'.cell? ⟨q,2,none⟩=some (ptr kp)/\w'.rangeAt b5 1 (aA f.e.key)) au ?_;refine rt 0 (h:=?_);refine rP 1 ?_ (y:=dW);refine rP 2 ?_ (y:=bY);refine rt 3 (h:=?_);refine rP 4 ?_ (y:=bY);refine rP 5 ?_ (y:=bY);refine gK 6 ak au bV (jh (b:=b5) (o:=1) (aA f.e.key) ah underlying50 rfl yG0 (λw hw=>hw.2.2)) aQ gQ ?_;clear hG;refine sO 7 11 ak ak au (λK hK=>?_) (λK hK=>?_)
 focus
  (refine iC au ak ak ?_)
  refine (HT.o _ _ (h9.sb:Sat w0 _ (dG kp mm B::pt b7 (.cells (aW ⟨s,f.at_,f.size⟩).toArray 94 (0,0))::pt b5 (.cells (gV f (.slice da dn dc)) 54 (0,0))::pt b4 (.cells #[.int .i64 s] 3 (0,0))::pt b3 (.cells #[ptr q] 84 (0,0))::fA gb gs::dL q N lv kp ip gb::dK bg::aH ip P.index Bi::F))).mono ?_;rintro ee w10 ⟨v,rfl,rfl,h10⟩;refine hK _ _ (.inl rfl) ?_;clear hK h9;refine rP 8 ?_ (y:=aZ);refine rP 9 ?_ (y:=(iF ak dw));refine rP 10 ?_ (y:=(iF ak dw));refine bW 11 ak au (λK hK=>?_);refine nH (D5) h10 rfl ?_;intro b8 iH h11;refine hK _ _ (.inr (.inl ⟨h11.cellP (aS (aS (aS (aS (aS aU))))) 0 rfl,h11.cellP (aS (aS (aS (aS (aS (aS (aS aU))))))) 2 rfl,λj v hj=>h11.cellP iO (1+j) (nI j v hj)⟩)) ?_;clear hK h10
 rotate_left
 focus
  refine nH (D5) h9 rfl ?_;intro b8 w10 h10;refine hK _ _ (.inr (.inl ⟨h10.cellP rH 0 rfl,h10.cellP (aS (aS (aS (aS (aS (aS aU)))))) 2 rfl,λj v hj=>h10.cellP eH (1+j) (nI j v hj)⟩)) ?_;clear hK h9;refine bW 7 ak au (λK hK=>?_)
  (refine iC au ak ak ?_)
  refine (HT.o _ _ (h10.sb:Sat w0 _ (dG kp mm B::pt b8 (.cells (iL qy).toArray 202 (0,0))::pt b7 (.cells (aW ⟨s,f.at_,f.size⟩).toArray 94 (0,0))::pt b5 (.cells (gV f (.slice da dn dc)) 54 (0,0))::pt b4 (.cells #[.int .i64 s] 3 (0,0))::pt b3 (.cells #[ptr q] 84 (0,0))::fA gb gs::dL q N lv kp ip gb::dK bg::aH ip P.index Bi::F))).mono ?_;rintro ee iH ⟨v,rfl,rfl,EY⟩;refine hK _ _ (.inl rfl) ?_;clear hK h10;have h11:Sat w0 iH (pt b8 (.cells (iL qy).toArray 202 (0,0))::dG kp mm B::pt b7 (.cells (aW ⟨s,f.at_,f.size⟩).toArray 94 (0,0))::pt b5 (.cells (gV f (.slice da dn dc)) 54 (0,0))::pt b4 (.cells #[.int .i64 s] 3 (0,0))::pt b3 (.cells #[ptr q] 84 (0,0))::fA gb gs::dL q N lv kp ip gb::dK bg::aH ip P.index Bi::F):=EY.sb;clear EY;refine rP 8 ?_ (y:=aZ);refine rP 9 ?_ (y:=(iF ak dw));refine rP 10 ?_ (y:=(iF ak dw))
 all_goals
  refine bW 12 ak au (λK hK=>?_);refine kQ (cs':=(iL ⟨ka,kn,kc,pl⟩).toArray) h11 ak ak ah cZ bI au ah ?_;intro w12 h12;refine hK _ _ (.inl rfl) ?_;clear hK h11;refine rP 13 ?_ (y:=iy);refine dH au ?_;have iw:=uQ (h12.sb:Sat w0 w12 (fA gb gs::dL q N lv kp ip gb::dG kp mm B::dK bg::aH ip P.index Bi::F))
  have hany:=afY (w:=w12) (b3:=b3) (b4:=b4) (P:=λt=>decide (t<s) && !gs.contains t) (c:=c) (sv:= .slice ka kn kc) iV.o (by
   rcases Hq.o with z|⟨z1,z2,z3,z4⟩
   ·exact WG z (h12.sb:Sat w0 w12 (dK bg::F))
   ·rw [z1,z2,z3,z4];exact xu 1 0 w12) (λt=>agy (h12.sb:Sat w0 w12 (fA gb gs::dL q N lv kp ip gb::pt b3 (.cells #[ptr q] 84 (0,0))::pt b4 (.cells #[.int .i64 s] 3 (0,0))::F)))
  obtain ⟨z,hz⟩:∃ z:Bool,(c.any λt=>decide (t<s) && !gs.contains t)=z:=⟨_,rfl⟩;rw [hz]at hany qC;clear hz;have hrg:w12.rangeAt b8 1 (aW pl):=λj v hj=>h12.cellP aU (1+j) (by rw [ace,apW];exact hj);have f8:w12.cell? ⟨b8,0,none⟩=some (.slice ka kn kc):=h12.cellP aU 0 rfl;have heq:=XW pl ⟨s,f.at_,f.size⟩;generalize aO.wZ pl ⟨s,f.at_,f.size⟩=y at *
  have UZ:=uQ hany;clear HT e0 e34 e35 nI hany;rcases y with _|_
  focus
   obtain rfl:x=false:=qC.o
   go_wp2_with (first
    |((with_reducible refine bP ⟨?_⟩);refine iR (b:=b8) (o:=1) (aW pl) ah hrg underlying94 rfl au ?_)
    |((with_reducible refine bP ⟨?_⟩);refine iQ (cs:=(aW ⟨s,f.at_,f.size⟩).toArray) h12 ah eH underlying94 rfl au ?_))
   go_ret;exact ⟨_,rfl,rfl,iw.o⟩
  go_wp2_with (first
   |((with_reducible apply Gy);refine ⟨?_⟩;refine y8 (by first|rfl|kernel_rfl) ?_)
   |((with_reducible refine bP ⟨?_⟩);refine iR (b:=b8) (o:=1) (aW pl) ah hrg underlying94 rfl au ?_)
   |((with_reducible refine bP ⟨?_⟩);refine iQ (cs:=(aW ⟨s,f.at_,f.size⟩).toArray) h12 ah eH underlying94 rfl au ?_))
  refine UZ.o.mono ?_;rintro ee jM ⟨v,rfl,rfl,rfl⟩;have hxx:=qC.o;rw [apV]at hxx;subst hxx;clear UZ heq hrg f8 h12;go_wp2_with fail;go_ret;exact ⟨_,rfl,rfl,iw.o⟩
end
structure EF (P:aO.Plan) (N:Int) (mm:aj.Bs->Option Rep.jG) (mi:aj.Bs->Option Seg.aV) (bg:List (Value×List Int)) (B Bi:Nat):Prop where
 last:P.last=N
 idx:mi=P.index
 key:mW mm P.keys bg
 len:∀ k,(aO.iT P.keys k).1.length<=1048576
 b1:B<=13000000
 b2:Bi<=13000000
structure VU (y:Sg):Prop where
 key:∀ q∈y.2.1,q.1.e.key.length=32
 pay:aO.pay (kC y)<=16777216
 len:y.2.1.length<=16777216
section
variable {pc:Int}{zs:List Sg}{y:Sg}
theorem ahS (h:Sat w0 w (fA gb gs::F)):(Builtin.len_ #[142] 3 #[.map (some gb)]).run prog w=.ok (.int .i64 gs.length) w:=by
 rw [acy underlying142 3 h,aa4]
theorem agw {fa:Option Addr}{fc:Nat} (hy:y∈zs) (hyl:y.2.2=.slice fa y.2.1.length fc) (hf:VU y) (hpc:0<=pc/\pc<=100) (hP:EF P N mm mi bg B Bi)
  (h:Sat w0 w (fA gb gs::dL q N lv kp ip gb::dG kp mm B::dK bg::aH ip mi Bi::fC zs::F)) :
  Calls prog 121 #[ptr q,.agg #[.int .i64 y.1,y.2.2,.int .i64 (aO.pay (kC y))],.int .i64 pc] w (aP λv w'=>v=.bool (aO.sparse P gs pc (y.1,kC y))/\Sat w0 w' (fA gb gs::dL q N lv kp ip gb::dG kp mm B::dK bg::aH ip mi Bi::fC zs::F)):=by
 obtain ⟨s,fs,sv⟩:=y;dsimp only at hyl hf ⊢;subst hyl;have Hy:=uQ hy;have Hf:=uQ hf;have xM:=uQ hpc;have HP:=uQ hP;obtain ⟨x,hx⟩:∃ x:Bool,aO.sparse P gs pc (s,kC (s,fs,.slice fa fs.length fc))=x:=⟨_,rfl⟩;rw [hx];have Hx:=uQ hx;obtain ⟨py,hpy⟩:∃ py,aO.pay (kC (s,fs,.slice fa fs.length fc))=py:=⟨_,rfl⟩;have hp0:0<=py/\py<=16777216:=by
  have:=aO.FU (P:=P) (gs:=gs) (s:=s) (kC (s,fs,.slice fa fs.length fc));have:=hf.pay;omega
 rw [hpy];have zG:=uQ hpy;have lV:=uQ hp0;clear hx hpy hp0 hy hf hP;go_enter func121,ntmps121;go_wp2_with (with_reducible apply fD);refine ⟨fE h ak ak ?_⟩;intro b4 w4 h4;replace h4:Sat w0 w4 (pt b4 (.cells #[.int .i64 s,.slice fa fs.length fc,.int .i64 py] 146 (0,0))::fA gb gs::dL q N lv kp ip gb::dG kp mm B::dK bg::aH ip mi Bi::fC zs::F):=h4;clear h;have e2:w4.cell? ⟨b4,2,none⟩=some (.int .i64 py):=h4.cellP aU 2 rfl;by_cases h0:py=0
 focus
  have hb:(py==0)=true:=ai5.2 h0
  have qC:=uQ (show x=(decide (0<pc) && (decide (s≠N) || decide (0<gs.length))) by
   rw [<-Hx.o];unfold aO.sparse;simp only;rw [zG.o,acg h0,HP.o.last])
  clear h0 Hx
  repeat (first|go_skip|(with_reducible apply sD 2)|go_values|go_guarded|go_step|go_upon)
  refine ⟨?_⟩;have h5:=h4.drew;clear e2 h4;have e0:World.cell? _ ⟨b4,0,none⟩=some (.int .i64 s):=h5.cellP aU 0 rfl;have eN:World.cell? _ ⟨q,0,none⟩=some (.int .i64 N):=h5.cellP eH 0 rfl;have eg:World.cell? _ ⟨q,4,none⟩=some (.map (some gb)):=h5.cellP eH 4 rfl;have el:=ahS (h5.sb:Sat w0 _ (fA gb gs::pt b4 (.cells #[.int .i64 s,.slice fa fs.length fc,.int .i64 py] 146 (0,0))::dL q N lv kp ip gb::dG kp mm B::dK bg::aH ip mi Bi::fC zs::F));have iw:=uQ (h5.drop);clear h5;by_cases h1:0<pc;rotate_left
  focus
   have c1:decide (pc>0)=false:=ad2 h1;have c1':¬ 0<pc:=h1;obtain rfl:x=false:=by rw [qC.o,ad2 h1];rfl
   clear h1
   go_region
   go_wp2_with fail;go_ret;exact ⟨_,rfl,rfl,iw.o⟩
  have c1:decide (pc>0)=true:=aeb h1;have c1':0<pc:=h1;by_cases h2:s=N;rotate_left
  focus
   have c2:(s != N)=true:=afZ.2 h2;obtain rfl:x=true:=by rw [qC.o,aeb h1,aeb h2];rfl
   clear h1 h2
   go_region
   go_wp2_with fail;go_ret;exact ⟨_,rfl,rfl,iw.o⟩
  have c2:(s != N)=false:=by rw [h2];exact bne_self_eq_false _
  by_cases h3:0<gs.length
  focus
   have c3:decide ((gs.length:Int)>0)=true:=aeb oQ;have c3':0<gs.length:=h3;obtain rfl:x=true:=by rw [qC.o,aeb h1,aeb h3,Bool.or_true];rfl
   clear h1 h2 h3
   go_region
   go_wp2_with fail;go_ret;exact ⟨_,rfl,rfl,iw.o⟩
  have c3:decide ((gs.length:Int)>0)=false:=ad2 oQ;have c3':¬ 0<gs.length:=h3;obtain rfl:x=false:=by rw [qC.o,aeb h1,ad2 h3,ad2 (λe=>e h2)];rfl
  clear h1 h2 h3
  go_region
  go_wp2_with fail;go_ret;exact ⟨_,rfl,rfl,iw.o⟩
 have hb:(py==0)=false:=by rw [adX];exact h0
 have qC:=uQ (show x=decide (100*aO.nV P gs s (fs.map (·.1))<pc*py) by
  rw [<-Hx.o];unfold aO.sparse;simp only;rw [zG.o,abj h0];rfl)
 clear h0 Hx;have Hlen:=uQ Hf.o.len;have e1:w4.cell? ⟨b4,1,none⟩=some (.slice fa fs.length fc):=h4.cellP aU 1 rfl;go_wp2_with fail;clear e1 e2 hb
 go_loopg [7,35] fs.length (λg lq iq wr=>∃ i:Nat,g=fs.length-i/\i<=fs.length/\lq=.int .i64 (aO.nV P gs s ((fs.take i).map (·.1)))/\iq=.int .i64 i/\Sat w0 wr (pt b4 (.cells #[.int .i64 s,.slice fa fs.length fc,.int .i64 py] 146 (0,0))::fA gb gs::dL q N lv kp ip gb::dG kp mm B::dK bg::aH ip mi Bi::fC zs::F))
 case atStart=>exact ⟨0,rfl,aea _,rfl,rfl,h4⟩
 case round=>
  obtain ⟨i,rfl,hi,rfl,rfl,hS⟩:=hrel;clear h4;obtain ⟨lz,hlz⟩:∃ lz,aO.nV P gs s ((fs.take i).map (·.1))=lz:=⟨_,rfl⟩;have hl0:0<=lz/\lz<=16777216:=by
   have h1:=aO.FU (P:=P) (gs:=gs) (s:=s) ((fs.take i).map (·.1));have h2:=aO.abg (fs.map (·.1)) i;rw [<-aoU]at h2;have h3:aO.pay (fs.map (·.1))<=16777216:=Hf.o.pay;omega
  rw [hlz];have ND:=uQ hlz;clear hlz;by_cases hlt:i<fs.length;rotate_left
  focus
   obtain rfl:i=fs.length:=by omega
   have c1:¬ (fs.length:Int)<(fs.length:Int):=oQ;have hw1:IntKind.i64.wrap (100*lz)=100*lz:=adr _ oQ
   have hw2:IntKind.i64.wrap (pc*py)=pc*py:=adr _ (by
    have h1:=xM.o;have h2:=lV.o;have h3:0<=pc*py:=Int.mul_nonneg h1.1 h2.1;have h4:pc*py<=100*16777216:=Int.mul_le_mul h1.2 h2.2 h2.1 aN;omega)
   have e2:wr.cell? ⟨b4,2,none⟩=some (.int .i64 py):=hS.cellP aU 2 rfl;have bH:=uQ (show x=decide (100*lz<pc*py) by rw [qC.o,<-ND.o,aeo]);have iw:=uQ hS.drop;obtain ⟨pp,hpp⟩:∃ pp,pc*py=pp:=⟨_,rfl⟩;rw [hpp]at hw2 bH;clear hS hi hlt hl0 qC ND;go_wp2_with fail;go_ret;rw [bH.o];exact ⟨_,rfl,rfl,iw.o⟩
  have c1:(i:Int)<(fs.length:Int):=oQ;have hwi:IntKind.i64.wrap ((i:Int)+1)=(i:Int)+1:=adr _ yM0;obtain ⟨⟨f,dv⟩,hq⟩:∃ q,fs[i]?=some q:=⟨_,aay hlt⟩;have qh:f.e.key.length=32:=Hf.o.key _ (abA hq);obtain ⟨da,dn,dc,rfl,hdn,_⟩:=Ox Hy.o (abA hq) (hS.pk (A:=fC zs));obtain ⟨bk,off,c2,e2,hcell⟩:=jd (f:=λq:aj.dD×Value=>nT q.1 q.2) (k:=36) (λq hq=>tK q.1 q.2 (Hf.o.key q hq)) (WE Hy.o (hS.pk (A:=fC zs))) hq aN;cases e2;have Aj:(nT f (.slice da dn dc)).length=36:=tK _ _ qh
  have II:=uQ (show aO.nV P gs s ((fs.take (i+1)).map (·.1))=lz+(if aO.counts P gs s f=true then (f.size:Int) else 0) by
   rw [aeK,hq,afw,adU,ad7,aeF,aO.aaj,ND.o])
  have hl1:lz+(if aO.counts P gs s f=true then (f.size:Int) else 0)<=16777216:=by
   rw [<-II.o];have h1:=aO.FU (P:=P) (gs:=gs) (s:=s) ((fs.take (i+1)).map (·.1));have h2:=aO.abg (fs.map (·.1)) (i+1);rw [<-aoU]at h2;have h3:aO.pay (fs.map (·.1))<=16777216:=Hf.o.pay;omega
  have BJ:=uQ hl1;have Em:=uQ hl0;have bT:=uQ hlt;have lG:=uQ qh;clear hq qh hi hlt hl1 hl0 hdn
  go_wp2_with (first
   |((with_reducible refine bP ⟨?_⟩);refine iR (b:=bk) (o:=off+i*36) (nT f (.slice da dn dc)) ah hcell underlying54 rfl (by rw [Aj];kernel_rfl) ?_)
   |(with_reducible apply fB))
  refine ⟨eF G5 hS rfl ?_⟩;intro b9 w9 h9;clear hcell hS;go_wp2_with (with_reducible apply dh);refine ⟨fP (gV f (.slice da dn dc)) h9 ah ah (by rw [pq _ _ lG.o];rfl) cZ yO0 (EW _ _ _ _) ?_⟩;intro w10 h10;clear h9;have e0:w10.cell? ⟨b4,0,none⟩=some (.int .i64 s):=h10.cellP bf 0 rfl;go_wp2_with ((with_reducible refine bP ⟨?_⟩);refine iQ (cs:=gV f (.slice da dn dc)) h10 ah aU underlying54 rfl yO0 ?_);refine (WT (s:=s) (f:=f) lG.o HP.o.b1 HP.o.b2 HP.o.key HP.o.len HP.o.idx (h10.sb:Sat w0 w10 (fA gb gs::dL q N lv kp ip gb::dG kp mm B::dK bg::aH ip mi Bi::pt b9 (.cells (gV f (.slice da dn dc)) 54 (0,0))::pt b4 (.cells #[.int .i64 s,.slice (some ⟨bk,off,none⟩) fs.length fc,.int .i64 py] 146 (0,0))::fC zs::F))).mono ?_;rintro ee iH ⟨v,rfl,rfl,h11⟩;clear h10 e0;obtain ⟨e34,e35,nI⟩:=EX f (.slice da dn dc) lG.o
  have f35:iH.cell? ⟨b9,35,none⟩=some (.int .i64 (f.size:Int)):=h11.cellP (aS (aS (aS (aS (aS aU))))) 35 e35;have iw:=uQ (h11.sb:Sat w0 iH (pt b4 (.cells #[.int .i64 s,.slice (some ⟨bk,off,none⟩) fs.length fc,.int .i64 py] 146 (0,0))::fA gb gs::dL q N lv kp ip gb::dG kp mm B::dK bg::aH ip mi Bi::fC zs::F));clear h11 e34 nI;obtain ⟨z,hz⟩:∃ z,aO.counts P gs s f=z:=⟨_,rfl⟩;rw [hz]at II BJ ⊢;clear hz;rcases z with _|_
  focus
   go_wp2_with fail
   go_roundg (fs.length-(i+1))
   case measure=>have:=bT.o;omega
   case rel=>exact ⟨i+1,rfl,aec bT.o,by rw [II.o];simp,by first|rfl|go_num,iw.o⟩
  have hwl:IntKind.i64.wrap (lz+(f.size:Int))=lz+(f.size:Int):=adr _ (by have h1:=BJ.o;have h2:=Em.o;simp at h1;omega);go_wp2_with fail
  go_roundg (fs.length-(i+1))
  case measure=>have:=bT.o;omega
  case rel=>exact ⟨i+1,rfl,aec bT.o,by rw [II.o];simp,by first|rfl|go_num,iw.o⟩
end
end Go.Proofs.Y
