import Derived.Test.YtadhomdmbcldkaaGreatDoorJ6
import Derived.Laws.Slices
set_option linter.unusedSimpArgs false
open Go.Proofs.Tryz
set_option maxRecDepth 20000
set_option linter.unusedVariables false
set_option maxHeartbeats 128000000
open Go Go.Sl Go.MapKept Go.RowKit
open Go.Proofs.YtadhomdmbcldkaaGreatDoor Go.Proofs.Y
variable {w0 w:World}{F R L:List aF}{v bv dv x lv sv:Value}{p m K q b:Nat}{P:Program}{ty:TypeId}{M:ak.ak}{ops:Array Oper}{a:Act}{Q:Exit->Act->World->Prop}{dst:Option Tmp}{after:Array Edge}{y:Operand}{rest:List Oper}{cs:Array Value}{s:Int×Int}
theorem yI0{p:Prop} (h:p:=by rw [show ints l=l.flatMap λi=>[Value.int .i64 i] from by unfold ints;exact List.map_eq_flatMap]at h;exact h):p:=h
namespace Go.Rep
open Go.aj (Bs dK)
def zo (l:List dK):Bool:=match l.getLast? with
 |some f=>f.e.tag==2
 |none=>false
abbrev Told:Type:=Int->Bs×Int
def split (bt:Told) (ns:List Int):Nat->Nat×Int
 |0=>(0,0)
 |i+1=>if (bt (ns.getD i 0)).2≠0 then (0,(bt (ns.getD i 0)).2) else if (aj.scan (bt (ns.getD i 0)).1).2.2=0/\zo (aj.scan (bt (ns.getD i 0)).1).1=true then (i+1,0) else split bt ns i
theorem Uf (bt:Told) (ns:List Int):∀ i,(split bt ns i).1<=i
 |0=>ab1 0
 |i+1=>by
  have:=Uf bt ns i;unfold split;split
  ·exact ad4 _
  split
  ·exact ab1 _
  ·omega
structure dI where
 what:Int
 seg:Int
 at_:Int
def dI.zero:dI:=⟨0,0,0⟩
def fault (s:Int) (at_:Nat):dI:=if at_=0 then ⟨1,s,0⟩ else ⟨2,s,at_⟩
def bad (bt:Told):List Int->Option (dI×Int)
 |[]=>none
 |s::l=>if (bt s).2≠0 then some (dI.zero,(bt s).2) else if (aj.scan (bt s).1).2.2≠0 then some (fault s (aj.scan (bt s).1).2.1,13) else bad bt l
def rowsOf (bt:Told) (l:List Int):List Row:=l.flatMap λs=>(aj.scan (bt s).1).1.map λf=>(s,f)
def nT (bt:Told) (l:List Int):List Use:=l.map λs=>⟨s,((bt s).1.length:Int),0⟩
theorem Jz (bt:Told):∀ (l k:List Int),bad bt l=none->bad bt (l++k)=bad bt k
 |[],_,_=>rfl
 |s::l,k,h=>by
  unfold bad at h;rw [aiQ];show (if (bt s).2≠0 then _ else if (aj.scan (bt s).1).2.2≠0 then _ else bad bt (l++k))=_;split at h
  ·cases h
  ·rename_i h1;rw [abL h1];split at h
   ·cases h
   ·rename_i h2;rw [abL h2];exact Jz bt l k h
theorem afK {bt:Told}{s:Int}{pre post:List Int} (hp:bad bt pre=none) (h:(bt s).2≠0):bad bt (pre++s::post)=some (dI.zero,(bt s).2):=by
 rw [Jz bt _ _ hp];unfold bad;rw [adU h]
theorem afL {bt:Told}{s:Int}{pre post:List Int} (hp:bad bt pre=none) (h:(bt s).2=0) (h2:(aj.scan (bt s).1).2.2≠0):bad bt (pre++s::post)=some (fault s (aj.scan (bt s).1).2.1,13):=by
 rw [Jz bt _ _ hp];unfold bad;rw [abL (λh3=>h3 h),adU h2]
theorem afJ {bt:Told}{s:Int}{pre:List Int} (hp:bad bt pre=none) (h:(bt s).2=0) (h2:(aj.scan (bt s).1).2.2=0):bad bt (pre++[s])=none:=by
 rw [Jz bt _ _ hp];unfold bad;rw [abL (λh3=>h3 h),abL (λh3=>h3 h2)];rfl
theorem abY (bt:Told) (l:List Int) (s:Int):rowsOf bt (l++[s])=rowsOf bt l++(aj.scan (bt s).1).1.map λf=>(s,f):=by
 unfold rowsOf;rw [aeB,aen,aiq,aei]
theorem anM (bt:Told) (l:List Int) (s:Int):nT bt (l++[s])=nT bt l++[⟨s,((bt s).1.length:Int),0⟩]:=by
 unfold nT;rw [aef];rfl
end Go.Rep
namespace Go.Proofs.Y
open Go.ak
def dW (f:Rep.dI):Array Value:=(.int .i64 f.what :: .int .i64 f.seg :: .int .i64 f.at_::(aB aj.zero32++[.string ByteArray.empty])).toArray
theorem pY:kD prog 36=some (.agg (dW Rep.dI.zero)):=by kernel_rfl
section
variable {ov:Value}
theorem anf {fs:List (aj.dK×Value)} (hk:∀ p∈fs,p.1.e.key.length=32) (h:aW 36 ov (iF fs) w){i:Nat}{p:aj.dK×Value} (hi:fs[i]?=some p) :
  ∃ bk off c,ov=.slice (some ⟨bk,off,none⟩) fs.length c/\w.cell? ⟨bk,off+i*36,none⟩=some (.int .i64 p.1.e.tag):=by
 obtain ⟨bk,off,c,e,hc⟩:=iL (f:=λp:aj.dK×Value=>nP p.1 p.2) (k:=36) (λp hp=>xY p.1 p.2 (hk p hp)) h hi aG;exact ⟨bk,off,c,e,hc 0 _ rfl⟩
theorem agR (fs:List (aj.dK×Value)) (hk:∀ p∈fs,p.1.e.key.length=32) (hn:fs.length<=1073741824) (h:aW 36 ov (iF fs) w) :
  Calls prog 193 #[ov] w (aN λv w'=>v=.bool (Rep.zo (fs.map (·.1)))/\w=w'):=by
 cases hfs:fs.getLast? with
 |none=>
  obtain rfl:fs=[]:=aox.1 hfs;obtain ⟨a,n,c,rfl,hl,_⟩:=h;obtain rfl:n=0:=by have:=hl;simp [iF]at this;omega
  go_enter func193,ntmps193;go_wp2_with fail;go_ret;exact ⟨_,rfl,rfl,rfl⟩
 |some p=>
  have hne:fs≠[]:=by intro e;rw [e]at hfs;cases hfs
  have hlen:0<fs.length:=List.length_pos_iff.2 hne;have hi:fs[fs.length-1]?=some p:=by rw [<-aoy];exact hfs
  obtain ⟨bk,off,c,rfl,hc⟩:=anf hk h hi;have He:=uQ (show Rep.zo (fs.map (·.1))=(p.1.e.tag==2) by unfold Rep.zo;rw [apw,hfs];rfl);rw [He.o];have c1:(fs.length:Int)>0:=oQ;have c2:(0:Int)<(fs.length:Int):=oQ;have w1:IntKind.i64.wrap ((fs.length:Int)-1)=((fs.length-1:Nat):Int):=by rw [acO _ oQ];omega
  have c3:(0:Int)<=((fs.length-1:Nat):Int):=oQ;have c4:((fs.length-1:Nat):Int)<(fs.length:Int):=oQ;clear hfs hne hlen hi h hk hn;generalize fs.length-1=j at *
  go_enter func193,ntmps193;go_wp2_with fail;go_ret;exact ⟨_,rfl,rfl,rfl⟩
end
section
variable {B B':Nat}{m:aj.Bs->Option Rep.dU}
theorem fJ.mono (hB:B<=B') (h:Sat w0 w (fJ p m B::R)):Sat w0 w (fJ p m B'::R):=by
 obtain ⟨t,sv,⟨ok,is,hb⟩,hS⟩:=fJ.open h;exact fJ.shut ok is (adT hb hB) hS
variable {da:Option Addr}{dn dc:Nat}
theorem ahg (f:aj.dK) (dv:Value) (hk:f.e.key.length=32):(jQ f dv)[34]?=some (.int .i64 f.at_)/\(jQ f dv)[35]?=some (.int .i64 f.size)/\∀ j v,(aB f.e.key)[j]?=some v->(jQ f dv)[1+j]?=some v:=by
 have hl:(jd f.e dv).length=34:=wF _ _ hk;refine ⟨?_,?_,λj v hj=>?_⟩
 ·show (jd f.e dv++_).toArray[34]?=_;rw [aeh,aew oQ,hl];rfl
 ·show (jd f.e dv++_).toArray[35]?=_;rw [aeh,aew oQ,hl];rfl
 ·have hj1:=(acZ.1 hj).1;have hj2:=hj1;rw [aP,hk]at hj2;show (jd f.e dv++_).toArray[1+j]?=_;rw [aeh,aek oQ,apX];show (aB f.e.key++[dv])[j]?=_;rw [aek hj1];exact hj
theorem anm (s:Int) (f:aj.dK) (hk:f.e.key.length=32) (hB:B<=13000000) (h:Sat w0 w (fJ p m B::F)) :
  Calls prog 152 #[.agg #[ptr p],.int .i64 s,.agg (jQ f (.slice da dn dc))] w (aN λ_ w'=>Sat w0 w' (fJ p (Rep.EL m (s,f)) (B+1)::F)):=by
 have Hk:=uQ hk;have HB:=uQ hB;have e0:(jQ f (.slice da dn dc))[0]?=some (.int .i64 f.e.tag):=rfl;obtain ⟨e34,e35,XI⟩:=ahg f (.slice da dn dc) hk;clear hk hB;go_enter func152,ntmps152;go_wp2_with (with_reducible apply fC);refine ⟨fB h ay ay ?_⟩;intro b3 w3 h3;go_wp2_with (with_reducible apply fC);refine ⟨fB h3 ay ay ?_⟩;intro b5 w5 h5;clear h h3;have h6:Sat w0 w5 (pt b5 (.cells (jQ f (.slice da dn dc)) 154 (0,0))::pt b3 (.cells #[ptr p] 256 (0,0))::fJ p m B::F):=h5;clear h5;have f0:w5.cell? ⟨b5,0,none⟩=some (.int .i64 f.e.tag):=h6.cellP aK 0 e0;by_cases h2:f.e.tag=2
 ·have hb:(f.e.tag==2)=true:=ako.2 h2;have Oi:=uQ (show Rep.EL m (s,f)=m from adU h2);have h7:=uQ (fJ.mono (aiL B) (h6.sb:Sat w0 w5 (fJ p m B::F)));clear h2 h6;go_wp2_with fail
  (try simp only [Exit.inBlock,Exit.then]);refine bodyPost_ret (results_none rfl _ _ _) rfl ?_
  exact ⟨_,rfl,by rw [Oi.o];exact h7.o⟩
 have hb:(f.e.tag==2)=false:=by rw [ad3];exact h2
 have Oi:=uQ (show Rep.EL m (s,f)=Tab.put m f.e.key ⟨f.e.tag,⟨s,f.at_,f.size⟩,Rep.pK m (s,f)⟩ from abL h2);clear h2;have hkr:w5.rangeAt b5 1 (aB f.e.key):=λj v hj=>h6.cellP aK (1+j) (XI j v hj)
 go_wp2_with (first
  |((with_reducible refine bC ⟨?_⟩);refine eY h6 ah bK bG ay au ?_)
  |((with_reducible refine bC ⟨?_⟩);refine iD (b:=b5) (o:=1) (aB f.e.key) ah hkr underlying34 rfl zF0 ?_))
 refine (ahr (by have:=HB.o;omega) Hk.o (h6.sb:Sat w0 w5 (fJ p m B::pt b5 (.cells (jQ f (.slice da dn dc)) 154 (0,0))::pt b3 (.cells #[ptr p] 256 (0,0))::F))).mono ?_;rintro ee w7 ⟨v,rfl,hv,h7⟩;clear h6 hkr f0;rcases hm:m f.e.key with _|a
 focus
  rw [hm,Option.getD_none,Option.isSome_none]at hv;subst hv;have hf0:Rep.BI m (s,f) = -1:=by unfold Rep.BI;show (match m f.e.key with|some a=>a.first|none=> -1) = -1;rw [hm]
  clear hm;go_wp2_with (with_reducible apply eG);refine ⟨eU I8 h7 rfl ?_⟩;intro b6 w8 h8;go_wp2_with (first|((with_reducible refine bW ⟨?_⟩);refine fG (fA ⟨0,Seg.aZ.zero,0⟩).toArray h8 ah ah ah bU au ah ?_;intro w9 h9)|((with_reducible refine bW ⟨?_⟩);refine jM (cs':=#[.int .i64 0,.int .i64 0,.int .i64 0,.int .i64 0,.int .i64 (-1)]) h9 ah ay ah bU (by show 4+1<=5;decide) au ah ?_;intro wB hB)|(with_reducible apply bC));refine ⟨?_⟩;have f1:wB.cell? ⟨b5,0,none⟩=some (.int .i64 f.e.tag):=hB.cellP (aU (aU aK)) 0 e0;have f2:wB.cell? ⟨b6,4,none⟩=some (.int .i64 (-1)):=hB.cellP aK 4 rfl;clear h7 h8 h9;by_cases hz:f.e.tag=0
  focus
   have hb0:(f.e.tag==0)=true:=ako.2 hz;have hE:=uQ (show Rep.pK m (s,f)=s by unfold Rep.pK;rw [hf0];exact adU ⟨hz,by decide⟩);clear hz hf0;go_wp2_with ((with_reducible refine bW ⟨?_⟩);refine jM (cs':=#[.int .i64 0,.int .i64 0,.int .i64 0,.int .i64 0,.int .i64 s]) hB ah ay ah bU (by show 4+1<=5;decide) au ah ?_;intro wA hA);clear hB f1 f2
  rotate_left
  focus
   have hb0:(f.e.tag==0)=false:=by rw [ad3];exact hz
   have hE:=uQ (show Rep.pK m (s,f) = -1 by unfold Rep.pK;rw [hf0];exact abL (λh=>hz h.1));clear hz hf0;go_wp2_with fail;clear f1 f2;have hA:=hB;clear hB
 rotate_left 2
 focus
  rw [hm,Option.getD_some,Option.isSome_some]at hv;subst hv;have hf0:Rep.BI m (s,f)=a.first:=by unfold Rep.BI;show (match m f.e.key with|some a=>a.first|none=> -1)=a.first;rw [hm]
  obtain ⟨at0,⟨Wi,Wj,Wn⟩,af⟩:=a;have YG:=h7;clear h7 hm;have h7:=YG;clear YG;go_wp2_with (with_reducible apply eG);refine ⟨eU I8 h7 rfl ?_⟩;intro b6 w8 h8;go_wp2_with (first|((with_reducible refine bW ⟨?_⟩);refine fG (fA ⟨at0,⟨Wi,Wj,Wn⟩,af⟩).toArray h8 ah ah ah bU au ah ?_;intro w9 h9)|(with_reducible apply bC));refine ⟨?_⟩;have f1:w9.cell? ⟨b5,0,none⟩=some (.int .i64 f.e.tag):=h9.cellP (aU (aU aK)) 0 e0;have f2:w9.cell? ⟨b6,4,none⟩=some (.int .i64 af):=h9.cellP aK 4 rfl;clear h7 h8;by_cases hz:f.e.tag=0
  focus
   have hb0:(f.e.tag==0)=true:=ako.2 hz;by_cases hf:af<0
   focus
    have hE:=uQ (show Rep.pK m (s,f)=s by unfold Rep.pK;rw [hf0];exact adU ⟨hz,hf⟩);clear hz hf0;go_wp2_with ((with_reducible refine bW ⟨?_⟩);refine jM (cs':=#[.int .i64 at0,.int .i64 Wi,.int .i64 Wj,.int .i64 Wn,.int .i64 s]) h9 ah ay ah bU (by show 4+1<=5;decide) au ah ?_;intro wA hA);clear h9 f1 f2
   rotate_left
   focus
    have hE:=uQ (show Rep.pK m (s,f)=af by unfold Rep.pK;rw [hf0];exact abL (λh=>hf h.2));clear hz hf0;go_wp2_with fail;clear f1 f2;have hA:=h9;clear h9
  rotate_left 2
  focus
   have hb0:(f.e.tag==0)=false:=by rw [ad3];exact hz
   have hE:=uQ (show Rep.pK m (s,f)=af by unfold Rep.pK;rw [hf0];exact abL (λh=>hz h.1));clear hz hf0;go_wp2_with fail;clear f1 f2;have hA:=h9;clear h9
 all_goals
  obtain ⟨q0,q1,q2,q3,q4,hE,iU⟩:∃ q0 q1 q2 q3 q4:Int,Hid (Rep.pK m (s,f)=q4)/\Sat w0 _ (pt b6 (.cells #[.int .i64 q0,.int .i64 q1,.int .i64 q2,.int .i64 q3,.int .i64 q4] 254 (0,0))::fJ p m B::pt b5 (.cells (jQ f (.slice da dn dc)) 154 (0,0))::pt b3 (.cells #[ptr p] 256 (0,0))::F):=⟨_,_,_,_,_,hE,hA.drew⟩;clear hA;have hG:=And.intro (iU.cellP (aU (aU aK)) 0 e0) (And.intro (iU.cellP (aU (aU aK)) 34 e34) (iU.cellP (aU (aU aK)) 35 e35));refine eF [11,12] (λw'=>w'.cell? ⟨b5,0,none⟩=some (.int .i64 f.e.tag)/\w'.cell? ⟨b5,34,none⟩=some (.int .i64 f.at_)/\w'.cell? ⟨b5,35,none⟩=some (.int .i64 f.size)) au ?_;refine rP 0 ?_ (y:=dh);refine rP 1 ?_ (y:=dh);refine rt 2 (h:=?_);refine rP 3 ?_ (y:=bD);refine rP 4 ?_ (y:=dh);refine rt 5 (h:=?_);refine rP 6 ?_ (y:=dh);refine rt 7 (h:=?_);refine rp 8 (hy:=yE0) (h:=?_);refine rP 9 ?_ (y:=dh);refine cZ 10 ay au (λK hK=>?_)
  refine pI (cs':=#[.int .i64 f.e.tag,.int .i64 q1,.int .i64 q2,.int .i64 q3,.int .i64 q4]) iU ay ay ah bU (by show 0+1<=5;decide) au ah ?_;intro w10 dG;have hG2:=And.intro (dG.cellP (aU (aU aK)) 0 e0) (And.intro (dG.cellP (aU (aU aK)) 34 e34) (dG.cellP (aU (aU aK)) 35 e35));refine hK _ _ (.inr (.inl hG2)) ?_;clear hK iU hG hG2;refine rP 11 ?_ (y:=dh);refine cZ 12 ay au (λK hK=>?_);refine pI (cs':=#[.int .i64 f.e.tag,.int .i64 s,.int .i64 f.at_,.int .i64 f.size,.int .i64 q4]) dG ay ay ah bU (by show 1+3<=5;decide) au ah ?_;intro w12 kH;refine hK _ _ (.inl rfl) ?_;clear hK dG;refine dX au ?_;have Ef:Sat w0 w12 (pt b6 (.cells (fA ⟨f.e.tag,⟨s,f.at_,f.size⟩,Rep.pK m (s,f)⟩).toArray 254 (0,0))::fJ p m B::pt b5 (.cells (jQ f (.slice da dn dc)) 154 (0,0))::pt b3 (.cells #[ptr p] 256 (0,0))::F):=by
   have:=kH;rw [hE.o];exact this
  clear kH;have hkr:w12.rangeAt b5 1 (aB f.e.key):=λj v hj=>Ef.cellP (aU (aU aK)) (1+j) (XI j v hj)
  go_wp2_with (first
   |((with_reducible refine bC ⟨?_⟩);refine iD (b:=b5) (o:=1) (aB f.e.key) ah hkr underlying34 rfl zF0 ?_)
   |((with_reducible refine bC ⟨?_⟩);refine iC Ef ah (aK (A:=pt b6 (.cells (fA ⟨f.e.tag,⟨s,f.at_,f.size⟩,Rep.pK m (s,f)⟩).toArray 254 (0,0)))) underlying254 rfl au ?_)
   |((with_reducible refine bC ⟨?_⟩);refine eY Ef ah bK bG ay au ?_))
  refine (akH (p:=p) (by have:=HB.o;omega) Hk.o ⟨f.e.tag,⟨s,f.at_,f.size⟩,Rep.pK m (s,f)⟩ (Ef.sb:Sat w0 w12 (fJ p m B::F))).mono ?_;rintro ee kC ⟨v,rfl,ahD⟩;go_wp2_with fail
  go_end0
  exact ⟨_,rfl,by rw [Oi.o];exact ahD⟩
end
section
variable {t T e:TypeId}{pos:String}{x:Operand}{o n c k cap sz dF:Nat}{ad:Addr}{ys:List Value}
theorem agL (sz dF:Nat){K:Act->World->Prop}{E:Prop} (hb:qJ P ty e sz dF=true) (hv:a.eval x=.slice (some ⟨b,0,none⟩) k cap) (hy:a.eval y=.slice (some ad) n c)
  (h:Sat w0 w (pt b (.cells cs T (0,0))::F)) (hl:ys.length=n*sz) (hnews:∀ j u,ys[j]?=some u->w.cell? (ad.add j)=some u) (h1:∀ u∈ys,u.oneCell'=true) (hroom:k+n<=cap) (hc:cap*sz<=cs.size)
  (hK:∀ w',Sat w0 w' (pt b (.cells (eH cs (k*sz) ys) T (0,0))::F)->K (a.put dst (.slice (some ⟨b,0,none⟩) (k+n) cap)) w') :
  if Region.wanted ⟨dst,.call { callee:= .builtin .append,args:=#[x,y],argTypes:=#[ty,ty] },t,pos,after,none⟩ (yielded ops a.tmps)=true then
   Oper.wp P ⟨dst,.call { callee:= .builtin .append,args:=#[x,y],argTypes:=#[ty,ty] },t,pos,after,none⟩ a w K Q else E:=by
 rw [adU (mZ _ rfl)];obtain ⟨hu,i,z,hi,hz,e1,e2,e3,e4⟩:=yZ hb;subst e1;have hle:(k+n)*i.size<=cs.size:=adT (aiI _ hroom) hc;rw [aoH]at hle
 have hr:=run_append_room_cells (P:=P) (w:=w) ty t e i hu hi b 0 k cap ad n c ys hl hnews h1 hroom (λj hj=>by
   rw [aeE,h.cellAt (k*i.size+j) _ (ajC (show k*i.size+j<cs.size by omega))];rfl) (λj hj=>h.oC _)
 rw [aeE]at hr;unfold Oper.wp execOp;simp only [resolve,invoke,builtin,aed,aep,adW,ahS,aes,ah3,hv,hy,hr];exact hK _ (Sat.sets ys (k*i.size) h)
theorem adN {vx vy:Value} (hx:a.eval x=vx) (hy:a.eval y=vy) (hr:∀ w,(Instr.sliceAt ty vx (some vy) none none).run P w=.ok v w):Yields P ops ⟨dst,.slice ty x (some y) none none,t,pos,after,none⟩ v a:=
 .inl ⟨mZ _ rfl,λw=>by simp only [execOp,hx,hy,aiM,ao1,aed,hr,adW,aep]⟩
theorem alW (sz:Nat){z:Value} (hu:P.underlying ty=some (.slice e)) (hz:kD P e=some z) (hzs:z.cells.size=sz) (h1:z.cells.toList.all (·.oneCell')=true){o:Nat} (hfit:o+sz<=cs.size)
  (h:Sat w0 w (pt b (.cells cs T (0,0))::F)) :
  ∃ w',(Builtin.clear_ #[ty] t #[.slice (some ⟨b,o,none⟩) 1 c]).run P w=.ok (.tuple #[]) w'/\Sat w0 w' (pt b (.cells (eH cs o z.cells.toList) T (0,0))::F):=by
 refine ⟨w.setCells b o z.cells.toList,?_,Sat.sets _ _ h⟩;have hzc:(Builtin.zeroCells z.cells 1).toList=z.cells.toList:=by
  unfold Builtin.zeroCells;simp only [Array.toList_map,Array.toList_range,Nat.one_mul];apply List.ext_getElem yF0;intro i q1 q2;have hi:i<z.cells.size:=by simpa using q2
  simp [ao3 hi,hi]
 have hst:=run_storeCells_cells (P:=P) b o z.cells.toList 0 w (λj hj=>by
   rw [aml,h.cellAt (o+j) _ (ajC (show o+j<cs.size by simp at hj;omega))];rfl) (λj hj=>h.oC _) (λu hu=>(agt.1 h1) u hu)
 simp only [aml]at hst;simp [Builtin.clear_,agu hu,LZ hz w,hzc,hst]
theorem an0 (sz:Nat){z:Value} (hu:P.underlying ty=some (.slice e)) (hz:kD P e=some z) (hzs:z.cells.size=sz) (h1:z.cells.toList.all (·.oneCell')=true) (hx:a.eval x=.slice (some ⟨b,o,none⟩) 1 c) (hfit:o+sz<=cs.size)
  (h:Sat w0 w (pt b (.cells cs T (0,0))::F)) (hK:∀ w',Sat w0 w' (pt b (.cells (eH cs o z.cells.toList) T (0,0))::F)->wpList P ops Q rest (a.put dst (.tuple #[])) w') :
  wpList P ops Q (⟨dst,.call { callee:= .builtin .clear,args:=#[x],argTypes:=#[ty] },t,pos,after,none⟩::rest) a w:=by
 refine ae5 rfl λ_ hK'=>?_;obtain ⟨w',hr,hS⟩:=alW (P:=P) (t:=t) (c:=c) sz hu hz hzs h1 hfit h;unfold Oper.wp execOp;simp only [resolve,invoke,builtin,aed,aep,adW,ahS,aes,ah3,hx,hr];exact hK' _ _ (hK w' hS)
theorem afu (h:Stop (wpList P ops Q (⟨dst,.call { callee:= .builtin .clear,args:=#[x],argTypes:=#[ty] },t,pos,after,none⟩::rest) a w)):wpList P ops Q (⟨dst,.call { callee:= .builtin .clear,args:=#[x],argTypes:=#[ty] },t,pos,after,none⟩::rest) a w:=h.o
end
theorem agy {l:List (Int×Int)}{i cap:Nat}{cs:Array Value} (hi:i<l.length) (hn:l.length<=cap) (hc:cap*2<=cs.size) (htk:cs.toList.take (l.length*2)=iy l) (z:List Value) (hz:z.length=2) :
  (eH (eH cs (i*2) (iy (l.drop (i+1)))) ((l.length-1)*2) z).toList.take ((l.length-1)*2)=iy (l.eraseIdx i):=by
 have hys:(iy (l.drop (i+1))).length=(l.length-(i+1))*2:=by rw [pW,adX,aiS]
 have hcl:cs.toList.length=cs.size:=by simp
 rw [mV _ _ _ (by rw [lC];omega),ad2,List.take_append,apO,Nat.min_self];have hp2:(eH cs (i*2) (iy (l.drop (i+1)))).toList.length=cs.size:=(ad6).trans (lC _ _ _);have h1:((eH cs (i*2) (iy (l.drop (i+1)))).toList.take ((l.length-1)*2)).length=(l.length-1)*2:=by
  rw [adt,hp2];omega
 rw [h1,aph,afC,aei,mV _ _ _ oQ,ad2];rw [List.take_append,adt,hcl,apg oQ,adZ (l:=cs.toList.take (i*2)) zM0];rw [List.take_append,hys,adZ (l:=iy (l.drop (i+1))) oQ,show (l.length-1)*2-i*2-(l.length-(i+1))*2=0 by omega,afC,aei];have h2:cs.toList.take (i*2)=iy (l.take i):=by
  have:=aeO (List.take (i*2)) htk;rw [apO,apg oQ]at this;rw [this]
  conv=>lhs;rw [<-aeX i l,Mc]
  rw [aeT (by rw [pW,adt];omega),adZ (by rw [pW,adt];omega)]
 rw [h2,<-Mc,List.eraseIdx_eq_take_drop_succ]
theorem amB (l:List (Int×Int)) (i:Nat):iy (l.drop i)=(iy l).drop (i*2):=by
 rcases aiN i l.length with h|h
 ·have h1:iy l=iy (l.take i)++iy (l.drop i):=by rw [<-Mc,aeX]
  have h2:(iy (l.take i)).length=i*2:=by rw [pW,adt];omega
  rw [h1,<-h2,List.drop_left]
 ·rw [aeI h,aeI (by rw [pW];omega)];rfl
theorem amC (l:List (Int×Int)):∀ u∈iy l,u.oneCell'=true:=by
 intro u hu;unfold iy at hu;rw [ao6]at hu;obtain ⟨s,_,hs⟩:=hu;simp only [ad9,aiR,apW]at hs;rcases hs with rfl|rfl <;> rfl
theorem amv (l:List (Int×Int)) (i:Nat) (hi:i<l.length) (hln:l.length<=1048576) (h:Sat w0 w (aC 148 2 lv (iy l)::F)) :
  Calls prog 170 #[lv,.int .i64 i,.int .i64 ((i:Int)+1)] w (aN λv w'=>∃ a n c,v=.slice a n c/\Sat w0 w' (aC 148 2 v (iy (l.eraseIdx i))::F)):=by
 rcases h.kL with ⟨rfl,hx,hF⟩|⟨b,n',cap,cs,rfl,hll,hn',hc,hcm,htk,hp⟩
 ·exfalso;have:=aeO List.length hx;rw [pW]at this;simp at this;omega
 rw [pW]at hll;obtain rfl:n'=l.length:=by omega
 have hcm':cap<=9223372036854775807:=hcm;have ael:=uQ (agy hi hn' hc htk [.int .i64 0,.int .i64 0] rfl);have h0:(0:Int)<=(i:Int):=oQ;have h1:(i:Int)<=(i:Int)+1:=oQ;have h2:(i:Int)+1<=(l.length:Int):=oQ;have h3:(l.length:Int)<=(cap:Int):=oQ;have hne:((i:Int)==(i:Int)+1)=false:=by rw [ad3];omega
 have Hp:=uQ hp;have Hcm:=uQ hcm;have Hc:=uQ hc;have Hn:=uQ hn';have dP:=uQ htk;have Hi:=uQ hi;have lq:=uQ hln;clear hn' hc hcm htk hi h hll hln;go_enter func170,ntmps170;go_wp2_with fail;obtain ⟨ad,had,hsl⟩:∃ ad:Addr,(i+1<l.length->ad=⟨b,(i+1)*2,none⟩)/\∀ w,(Instr.sliceAt 144 (.slice (some ⟨b,0,none⟩) l.length cap) (some (.int .i64 ((i:Int)+1))) none none).run prog w=.ok (.slice (some ad) (l.length-(i+1)) (cap-(i+1))) w:=by
  by_cases hce:cap=i+1
  ·refine ⟨⟨b,0,none⟩,λhh=>by have:=Hn.o;omega,λw=>?_⟩;have h4:(0:Int)<=(i:Int)+1:=oQ;have h5:((i:Int)+1).toNat=i+1:=oQ;go_simp
  ·refine ⟨⟨b,(i+1)*2,none⟩,λ_=>rfl,λw=>?_⟩;have h4:(0:Int)<=(i:Int)+1:=oQ;have h5:((i:Int)+1).toNat=i+1:=oQ;go_simp
 have hic:i<=cap:=oQ;refine eF [] (λ_=>True) au ?_;refine rP 0 ?_ (y:=bD);refine rP 1 ?_ (y:=bD);refine rp 2 (hy:=yE0) (h:=?_);refine rP 3 ?_ (y:=bD);refine rP 4 ?_ (y:=bD);refine rP 5 ?_ (y:=(adN ay ay hsl));refine cZ 6 ay au (λK hK=>?_);refine agL (e:=148) (w0:=w0) (b:=b) (cs:=cs) (k:=i) (ys:=iy (l.drop (i+1))) 2 16 au ah ah Hp.o.drew (by rw [pW,adX,aiS]) ?_ (amC _) (by have:=Hn.o;have:=Hi.o;omega) Hc.o ?_
 ·intro j u hj;have hjl:=(acZ.1 hj).1;rw [pW,adX]at hjl;rw [had oQ,Addr.add_mid];rw [amB,aoz]at hj;exact Hp.o.drew.cellAt _ _ (lX dP.o hj)
 intro w2 hS2;refine hK _ _ (.inr (.inl trivial)) ?_;clear hK K;rw [show i+(l.length-(i+1))=l.length-1 by have:=Hi.o;omega];have hj0:(0:Int)<=((l.length-1:Nat):Int):=oQ;have hj1:((l.length-1:Nat):Int)<=(l.length:Int):=oQ;have hj2:¬ cap=l.length-1:=by have:=Hn.o;have:=Hi.o;omega
 have hj3:l.length-(l.length-1)=1:=by have:=Hi.o;omega
 have hfit:=uQ (show (l.length-1)*2+2<=(eH cs (i*2) (iy (l.drop (i+1)))).size by rw [lC];have:=Hc.o;have:=Hn.o;have:=Hi.o;omega);have Hk:=uQ (show (iy (l.eraseIdx i)).length=(l.length-1)*2 by rw [pW,List.length_eraseIdx_of_lt Hi.o,aiS]);generalize (l.length-1)=N at *
 refine rP 7 ?_ (y:=jU);refine dX au ?_;clear hp hsl had;go_wp2_with ((with_reducible refine afu ⟨?_⟩);refine an0 (o:=N*2) 2 underlying144 adP ah ah ah hfit.o hS2 ?_;intro w3 hS3);go_ret;refine ⟨_,rfl,_,_,_,rfl,?_⟩;exact Sat.kU hS3 Hk.o yP0 (by rw [lC,lC];exact Hc.o) Hcm.o ael.o
section
variable {L:Seg.Log}
theorem ajn (hL:L.Ok) (hM:M.Ok K) (hKK:K<=1099511627776) (n:Int) (h:Sat w0 w (aV p m L::aI m M::F)) :
  Calls prog 121 #[ptr p,.int .i64 n] w (aN λv w'=>v=errno (L.remove M n).2/\Sat w0 w' (aV p m (L.remove M n).1.1::aI m (L.remove M n).1.2::F)):=by
 obtain ⟨lv,hR⟩:=aV.vX h;have hok:=CS hR;have hf:=G5 hL n h;clear hR lv;rcases JU (L:=L) n with ⟨ha,hb⟩|⟨i,ha,hb⟩
 ·have bF:=uQ (show L.remove M n=((L,M),9) by unfold Seg.Log.remove;rw [ha]);rw [hb]at hf;clear ha hb hL h;go_enter func121,ntmps121;go_wp2_with fail;refine hok.mono ?_;rintro e w2 ⟨v,rfl,rfl,rfl⟩;clear hok;go_wp2_with fail;refine hf.mono ?_;rintro e w2 ⟨v,rfl,rfl,hS2⟩;clear hf;go_wp2;go_ret;rw [bF.o];exact ⟨_,rfl,rfl,hS2⟩
 ·rw [hb]at hf;have hlt:=(Seg.Log.Jw ha).1;have Hg:=uQ (show L.remove M n=if (M.remove (Seg.name n)).2=0 then ((L.without i,(M.remove (Seg.name n)).1),0) else ((L,(M.remove (Seg.name n)).1),(M.remove (Seg.name n)).2) by unfold Seg.Log.remove;rw [ha]);have hi0:(0:Int)<=(i:Int):=oQ;have hd:decide ((i:Int)<0)=false:=aea oQ;have aS:=uQ hlt;have lq:=uQ hL.len;have Vo:=uQ hL.fresh;clear ha hb hL h hlt;go_enter func121,ntmps121;go_wp2_with fail;refine hok.mono ?_;rintro e w2 ⟨v,rfl,rfl,rfl⟩;clear hok;go_wp2_with fail;refine hf.mono ?_;rintro e w2 ⟨v,rfl,rfl,hS2⟩;clear hf;obtain ⟨lv,hR⟩:=aV.vX hS2;clear hS2;go_wp2_with fail;refine eF [6,7] (λw'=>w'.cell? ⟨p,0,none⟩=some (ptr m)) au ?_;have hG:w2.drew.cell? ⟨p,0,none⟩=some (ptr m):=hR.drew.cellP bK 0 rfl;refine rP 0 ?_ (y:=bD);refine rP 1 ?_ (y:=iG);refine rP 2 ?_ (y:=dh);refine rt 3 (h:=?_)
  refine rP 4 ?_ (y:=bD);clear hG;refine cZ 5 ay au (λK hK=>?_)
  (refine uJ au ay ?_)
  refine (EI n hR.drew).mono ?_;rintro e w3 ⟨v,rfl,rfl,hS3⟩;refine hK _ _ (.inr (.inl (hS3.cellP bK 0 rfl))) ?_;clear hK hR;refine cZ 6 ay au (λK hK=>?_)
  (refine jB au ay ay ?_)
  refine (yI hM hKK (Sat.pk aQ) _).mono ?_;rintro e w4 ⟨v,rfl,rfl,hS4⟩;refine hK _ _ (.inl rfl) ?_;clear hK hS3;refine rP 7 ?_ (y:=jU);refine dX au ?_;clear hM;generalize M.remove (Seg.name n)=B at *
  obtain ⟨M2,e2⟩:=B;by_cases he:e2=0;rotate_left
  ·have heb:(e2==0)=false:=aoW he;have hfin:=uQ (Hg.o.trans (abL he));clear he;go_wp2_with fail;go_ret;rw [hfin.o];exact ⟨_,rfl,rfl,aV.shut2 (lv:=lv) (Sat.sb hS4)⟩
  subst he;have hfin:=uQ (Hg.o.trans (adU rfl));clear Hg;obtain ⟨la,lc,rfl⟩:∃ la lc,lv=.slice la L.l.length lc:=by
   obtain ⟨a,n',c,rfl,hn,_⟩:=Sat.rd (hS4.pk (A:=aC 148 2 lv (iy L.l)));rw [pW]at hn;exact ⟨a,c,by rw [show n'=L.l.length by omega]⟩
  have hw1:IntKind.i64.wrap ((L.l.length:Int)-1)=(L.l.length:Int)-1:=by rw [alj];have:=lq.o;omega
  have hw2:IntKind.i64.wrap ((L.l.length:Int)-L.fresh)=(L.l.length:Int)-L.fresh:=by rw [alj];have:=lq.o;have:=Vo.o;omega
  have hw3:IntKind.i64.wrap (L.fresh-1)=L.fresh-1:=by rw [alj];have:=lq.o;have:=Vo.o;omega
  have hw4:IntKind.i64.wrap ((i:Int)+1)=(i:Int)+1:=by rw [alj];have:=lq.o;have:=aS.o;omega
  have sK:=uQ (show (L.without i).on=if ((i:Int)==(L.l.length:Int)-1)=true then false else L.on by
   unfold Seg.Log.without;simp only [ako];have:=aS.o;by_cases hh:i+1=L.l.length
   ·rw [adU hh,adU oQ]
   ·rw [abL hh,abL oQ])
  have nJ:=uQ (show (L.without i).fresh=if decide ((L.l.length:Int)-L.fresh<=(i:Int))=true then L.fresh-1 else L.fresh by
   unfold Seg.Log.without;simp only [ad5])
  have Hll:=uQ (show (L.without i).l=L.l.eraseIdx i/\(L.without i).limit=L.limit from ⟨rfl,rfl⟩);generalize L.without i=LW at *
  obtain ⟨aoD,Wl,Won,Wfr⟩:=LW;obtain ⟨rfl,rfl⟩:=Hll.o;obtain rfl:=sK.o;obtain rfl:=nJ.o;clear sK nJ Hll;cases hb1:((i:Int)==(L.l.length:Int)-1) <;> cases hb2:(decide ((L.l.length:Int)-L.fresh<=(i:Int)))
  all_goals
   go_wp2_with (first|((with_reducible refine bC ⟨?_⟩);refine eY aQ ah bK bG ay au ?_)|((with_reducible refine bW ⟨?_⟩);refine jM aQ ah ay pQ gZ bG au ah ?_;intro wS hS))
   try have hS4:=hS
   have hG:(World.drew _).cell? ⟨p,2,none⟩=some (.slice la L.l.length lc)/\(World.drew _).cell? ⟨p,4,none⟩=some (.int .i64 L.fresh):=⟨hS4.drew.cellP bK 2 rfl,hS4.drew.cellP bK 4 rfl⟩;refine eF [10,11] (λw'=>w'.cell? ⟨p,2,none⟩=some (.slice la L.l.length lc)/\w'.cell? ⟨p,4,none⟩=some (.int .i64 L.fresh)) au ?_;refine rP 0 ?_ (y:=bD);refine rP 1 ?_ (y:=bD);refine rP 2 ?_ (y:=iG);refine rP 3 ?_ (y:=dh);refine rt 4 (h:=?_);refine rP 5 ?_ (y:=(xw ay bY));refine rP 6 ?_ (y:=bD);refine rP 7 ?_ (y:=iG);refine rP 8 ?_ (y:=dh);refine rt 9 (h:=?_);refine rP 10 ?_ (y:=lZ);refine rP 11 ?_ (y:=lZ);refine dX au ?_;clear hG;have hS5:=hS4.drew;clear hS4;go_wp2_with (first|((with_reducible refine bC ⟨?_⟩);refine eY aQ ah bK bG ay au ?_)|((with_reducible refine bW ⟨?_⟩);refine jM aQ ah ay pQ gZ bG au ah ?_;intro wS hS))
   refine (amv (lv:= .slice la L.l.length lc) L.l i aS.o lq.o (Sat.pk aQ)).mono ?_;rintro e w6 ⟨v,rfl,da,dn,dc,rfl,hS6⟩;go_wp2_with ((with_reducible refine bW ⟨?_⟩);refine jM aQ ah ay pQ gZ bG au ah ?_;intro wS hS);go_ret;rw [hfin.o,hb1,hb2];simp only [apc,ao7,aip];exact ⟨_,rfl,rfl,aV.shut2 (lv:= .slice da dn dc) (Sat.sb hS)⟩
theorem abt {L:Seg.Log}{M:ak} (h:M.Ok K) (n:Int):(L.remove M n).1.2.Ok (K+1):=by
 unfold Seg.Log.remove;split;· exact h.mono (aiL K)
 split <;> exact h.remove _
end
end Go.Proofs.Y
namespace Go.Seg
open Go.ak
def Log.read (L:Log) (M:ak) (q:aZ):aj.aJ×Int:=
 match L.at q.seg with
 |none=>(aj.zeroE,9)
 |some _=>
  if (M.read (name q.seg) q.at_ q.size).2≠0 then (aj.zeroE,(M.read (name q.seg) q.at_ q.size).2)
  else if (aj.read (M.read (name q.seg) q.at_ q.size).1).2.2≠0 then (aj.zeroE,(aj.read (M.read (name q.seg) q.at_ q.size).1).2.2)
  else if (aj.read (M.read (name q.seg) q.at_ q.size).1).2.1≠(M.read (name q.seg) q.at_ q.size).1.length then (aj.zeroE,4)
  else ((aj.read (M.read (name q.seg) q.at_ q.size).1).1,0)
theorem LD (l:Bs):(aj.read l).1.key.length=32:=by
 unfold aj.read;dsimp only;split;· rfl
 split;· rfl
 split;· rfl
 split;· rfl
 split
 ·rename_i h1 h2 h3 h4 h5;simp only [adt,adX];simp only [Nat.not_lt]at h3;omega
 ·rfl
theorem ak0 {K:Nat}{M:ak} (h:M.Ok K) (s:ByteArray) (a n:Int):(M.read s a n).1.length<=16777216:=by
 unfold ak.read;dsimp only;split;· simp
 split;· simp
 rename_i i _;have:=(h.file i).uT;split;· simp
 split;· simp
 simp only [adt,adX];omega
end Go.Seg
namespace Go.Proofs.Y
open Go.ak
section
variable {L:Seg.Log}
theorem ajm (hH:Ro w0 F Half) (hL:L.Ok) (hM:M.Ok K) (pl:Seg.aZ) (h1 : -9223372036854775808<=pl.at_/\pl.at_<=9223372036854775807) (h2 : -9223372036854775808<=pl.size/\pl.size<=9223372036854775807) (h:Sat w0 w (aV p m L::aI m M::F)) :
  Calls prog 127 #[ptr p,akA pl] w (aN λv w'=>∃ da dc,v=.tuple #[.agg (bV (L.read M pl).1 (.slice da (L.read M pl).1.data.length dc)),errno (L.read M pl).2] /\
   Sat w0 w' (aY (.slice da (L.read M pl).1.data.length dc) (L.read M pl).1.data::aV p m L::aI m M::F)):=by
 have HH:=uQ hH;rcases JU (L:=L) pl.seg with ⟨ha,hb⟩|⟨i,ha,hb⟩
 ·have Hf:=uQ (show L.read M pl=(aj.zeroE,9) by unfold Seg.Log.read;rw [ha]);have Hb:=uQ hb;clear ha hb hH;go_enter func127,ntmps127;go_wp2_with (first|((with_reducible refine fC ⟨?_⟩);refine fB aQ ay ay ?_;intro bB wB hB)|((with_reducible refine sS ⟨?_⟩);refine tX aQ ?_;intro bE wE hE));obtain ⟨lv,hR⟩:=aV.vX (hE.pk (A:=aV p m L));refine (CS hR).mono ?_;rintro e w2 ⟨v,rfl,rfl,rfl⟩;clear hR lv;have hf:=G5 hL pl.seg (hE.pk (A:=aV p m L));rw [Hb.o]at hf;go_wp2_with ((with_reducible refine bC ⟨?_⟩);refine eY aQ ah bK bG ay au ?_);refine hf.mono ?_;rintro e w3 ⟨v,rfl,rfl,hS3⟩;clear hf hE;go_wp2_with (first|((with_reducible refine y8 ⟨?_⟩);refine Ag ?_)|((with_reducible refine ql ⟨?_⟩);first|(refine jO aQ ah ah fQ gZ sQ ?_;intro wS hS)|(refine jO (e:=aj.zeroE) (da:=none) (dn:=0) (dc:=0) aQ ah ah rfl gZ sQ ?_;intro wS hS)));rw [Hf.o]
  exact ⟨rfl,_,Il rfl aQ ah bK rfl,_,rfl,none,0,rfl,Sat.dO.2 (Sat.sb hS)⟩
 ·have qF:=uQ (show L.read M pl=if (M.read (Seg.name pl.seg) pl.at_ pl.size).2≠0 then (aj.zeroE,(M.read (Seg.name pl.seg) pl.at_ pl.size).2)
   else if (aj.read (M.read (Seg.name pl.seg) pl.at_ pl.size).1).2.2≠0 then (aj.zeroE,(aj.read (M.read (Seg.name pl.seg) pl.at_ pl.size).1).2.2)
   else if (aj.read (M.read (Seg.name pl.seg) pl.at_ pl.size).1).2.1≠(M.read (Seg.name pl.seg) pl.at_ pl.size).1.length then (aj.zeroE,4)
   else ((aj.read (M.read (Seg.name pl.seg) pl.at_ pl.size).1).1,0) by unfold Seg.Log.read;rw [ha])
  have Hb:=uQ hb;have Hrl:=uQ (Seg.ak0 hM (Seg.name pl.seg) pl.at_ pl.size);have hi0:(0:Int)<=(i:Int):=oQ;have hd:decide ((i:Int)<0)=false:=aea oQ;clear ha hb hH;go_enter func127,ntmps127;go_wp2_with (first|((with_reducible refine fC ⟨?_⟩);refine fB aQ ay ay ?_;intro bB wB hB)|((with_reducible refine sS ⟨?_⟩);refine tX aQ ?_;intro bE wE hE));obtain ⟨lv,hR⟩:=aV.vX (hE.pk (A:=aV p m L));refine (CS hR).mono ?_;rintro e w2 ⟨v,rfl,rfl,rfl⟩;clear hR lv;have hf:=G5 hL pl.seg (hE.pk (A:=aV p m L));rw [Hb.o]at hf;go_wp2_with ((with_reducible refine bC ⟨?_⟩);refine eY aQ ah bK bG ay au ?_);refine hf.mono ?_;rintro e w3 ⟨v,rfl,rfl,hS3⟩;clear hf hE;obtain ⟨lv,hR⟩:=aV.vX hS3;clear hS3;go_wp2_with fail
  refine eF [11,12,13,14,15,16] (λw'=>w'.cell? ⟨p,0,none⟩=some (ptr m)/\w'.cell? ⟨bB,0,none⟩=some (.int .i64 pl.seg)/\w'.cell? ⟨bB,1,none⟩=some (.int .i64 pl.at_)/\w'.cell? ⟨bB,2,none⟩=some (.int .i64 pl.size)) au ?_;have hG:w3.drew.cell? ⟨p,0,none⟩=some (ptr m)/\w3.drew.cell? ⟨bB,0,none⟩=some (.int .i64 pl.seg)/\w3.drew.cell? ⟨bB,1,none⟩=some (.int .i64 pl.at_)/\w3.drew.cell? ⟨bB,2,none⟩=some (.int .i64 pl.size):=⟨hR.drew.cellP bK 0 rfl,hR.drew.cellP bK 0 rfl,hR.drew.cellP bK 1 rfl,hR.drew.cellP bK 2 rfl⟩;refine rP 0 ?_ (y:=bD);refine rP 1 ?_ (y:=iG);refine rP 2 ?_ (y:=dh);refine rt 3 (h:=?_);refine rP 4 ?_ (y:=dh);refine rt 5 (h:=?_);refine rP 7 ?_ (y:=dh);refine rt 8 (h:=?_);refine rP 9 ?_ (y:=dh);refine rt 10 (h:=?_);clear hG;refine cZ 6 ay au (λK hK=>?_)
  (refine uJ au ay ?_)
  refine (EI pl.seg hR.drew).mono ?_;rintro e w4 ⟨v,rfl,rfl,hS4⟩;refine hK _ _ (.inr (.inl ⟨hS4.cellP bK 0 rfl,hS4.cellP bK 0 rfl,hS4.cellP bK 1 rfl,hS4.cellP bK 2 rfl⟩)) ?_;clear hK hR;refine cZ 11 ay au (λK hK=>?_)
  (refine agM au ay ay ay ay ?_)
  refine (akZ hM (Sat.pk aQ) _ pl.at_ pl.size h1 h2).mono ?_;rintro e w5 ⟨v,rfl,bv,rfl,hS5⟩;refine hK _ _ (.inl rfl) ?_;clear hK hS4 h1 h2;refine rP 12 ?_ (y:=bD);refine rP 13 ?_ (y:=(nU ay bY));refine rP 14 ?_ (y:=(nU ay bY));refine rP 15 ?_ (y:=jU);refine rP 16 ?_ (y:=jU);refine dX au ?_;generalize M.read (Seg.name pl.seg) pl.at_ pl.size=RR at *
  obtain ⟨bs,e1⟩:=RR;by_cases he:e1=0;rotate_left
  ·have heb:(e1==0)=false:=aoW he;have Hf:=uQ (qF.o.trans (adU he));clear he;go_wp2_with (first|((with_reducible refine y8 ⟨?_⟩);refine Ag ?_)|((with_reducible refine ql ⟨?_⟩);first|(refine jO aQ ah ah fQ gZ sQ ?_;intro wS hS)|(refine jO (e:=aj.zeroE) (da:=none) (dn:=0) (dc:=0) aQ ah ah rfl gZ sQ ?_;intro wS hS)));rw [Hf.o];exact ⟨rfl,_,Il rfl aQ ah bK rfl,_,rfl,none,0,rfl,Sat.dO.2 (Sat.pick (aV.shut2 (lv:=lv) (Sat.sb hS)) aK)⟩
  subst he;have Oq:=uQ (qF.o.trans (abL (λh=>h rfl)));clear qF;obtain ⟨ba,bn,bc,hbv,hbn,hbc,hbl⟩:=Bj hS5;subst hbv;subst hbl;have hfr:=P7 bs (bv:= .slice ba bs.length bc) (Ro.op (Ro.aY _ _)) ⟨_,_,_,rfl,hbn,hbc⟩ (Ro.os HH.o) (by have:=Hrl.o;simp only at this;omega) hS5;have hkey:=Seg.LD bs;generalize aj.read bs=FR at *
  obtain ⟨fe,fn,e2⟩:=FR;simp only at hfr hkey;go_wp2_with fail;refine hfr.mono ?_;rintro e w6 ⟨v,rfl,da,dc,rfl,hS6⟩;clear hfr hS5;by_cases he2:e2=0;rotate_left
  ·have heb:(e2==0)=false:=aoW he2;have Hf:=uQ (Oq.o.trans (adU he2));clear he2;go_wp2_with (first|((with_reducible refine sS ⟨?_⟩);refine tX aQ ?_;intro bE wE hE)|((with_reducible refine y8 ⟨?_⟩);refine Ag ?_)|((with_reducible refine ql ⟨?_⟩);first|(refine jO aQ ah ah fQ gZ sQ ?_;intro wS hS)|(refine jO (e:=aj.zeroE) (da:=none) (dn:=0) (dc:=0) aQ ah ah rfl gZ sQ ?_;intro wS hS)));rw [Hf.o];exact ⟨rfl,_,Il rfl aQ ah bK rfl,_,rfl,none,0,rfl,Sat.dO.2 (Sat.pick (aV.shut2 (lv:=lv) (Sat.sb hS)) aK)⟩
  subst he2;have Ot:=uQ (Oq.o.trans (abL (λh=>h rfl)));clear Oq;by_cases hn:fn=bs.length;rotate_left
  ·have hnb:((fn:Int)==(bs.length:Int))=false:=by rw [ad3];omega
   have Hf:=uQ (Ot.o.trans (adU hn));clear hn;go_wp2_with (first|((with_reducible refine sS ⟨?_⟩);refine tX aQ ?_;intro bE wE hE)|((with_reducible refine y8 ⟨?_⟩);refine Ag ?_)|((with_reducible refine ql ⟨?_⟩);first|(refine jO aQ ah ah fQ gZ sQ ?_;intro wS hS)|(refine jO (e:=aj.zeroE) (da:=none) (dn:=0) (dc:=0) aQ ah ah rfl gZ sQ ?_;intro wS hS)));rw [Hf.o];exact ⟨rfl,_,Il rfl aQ ah bK rfl,_,rfl,none,0,rfl,Sat.dO.2 (Sat.pick (aV.shut2 (lv:=lv) (Sat.sb hS)) aK)⟩
  have Hf:=uQ (Ot.o.trans (abL (λh=>h hn)));have hnb:((fn:Int)==(bs.length:Int))=true:=by rw [ako];omega
  clear hn Ot;go_wp2_with (first|((with_reducible refine sS ⟨?_⟩);refine tX aQ ?_;intro bE wE hE)|((with_reducible refine Bh ⟨?_⟩);refine Dn aQ ah bK fQ ?_)|((with_reducible refine ql ⟨?_⟩);first|(refine jO aQ ah ah fQ gZ sQ ?_;intro wS hS)|(refine jO (e:=aj.zeroE) (da:=none) (dn:=0) (dc:=0) aQ ah ah rfl gZ sQ ?_;intro wS hS)));rw [Hf.o];exact ⟨rfl,_,Il rfl aQ ah bK hkey,_,rfl,da,dc,rfl,Sat.sub (aV.shut2 (lv:=lv) (Sat.sb hS)) jS⟩
end
end Go.Proofs.Y
namespace Go.Seg
open Go.ak
structure Alike (M M':ak):Prop where
 now:M'.now=M.now
 room:M'.room=M.room
 off:M'.off=M.off
 bytes:∀ p∈M.now,(M'.file p.2).now=(M.file p.2).now
theorem Alike.refl (M:ak):Alike M M:=⟨rfl,rfl,rfl,λ_ _=>rfl⟩
theorem Alike.used {M M':ak} (h:Alike M M'):M'.used=M.used:=by
 unfold ak.used;rw [h.now];exact aeO List.sum (aj6 λp hp=>by rw [h.bytes p hp])
theorem Alike.all {M M':ak} (h:Alike M M') (s:ByteArray):M'.all s=M.all s:=by
 unfold ak.all;rw [h.off,h.now];cases hg:bH M.now s with
 |none=>rfl
 |some i=>simp only;rw [h.bytes (s,i) (ji hg)]
theorem am7 {M:ak}{K:Nat} (ok:M.Ok K) (q:Quiet M) (s:ByteArray):Alike M (M.sync s).1:=by
 cases hg:bH M.now s with
 |none=>
  have:M.sync s=(M,9):=by unfold ak.sync;rw [q.off,hg];rfl
  rw [this];exact Alike.refl M
 |some i=>
  rw [q.acR hg];refine ⟨rfl,rfl,rfl,λp hp=>?_⟩;show ((M.eP i _).file p.2).now=_;rw [zx (ok.fU.ids _ (ji hg))];split
  ·rename_i e;rw [e];rfl
  ·rfl
theorem OJ {M:ak} (q:Quiet M) (s:ByteArray) (b:Bs) :
  bH M.now s=none/\M.append s b=(M,9)\/∃ i,bH M.now s=some i/\((M.room:Int)-M.used<b.length/\M.append s b=(M,11)\/¬ (M.room:Int)-M.used<b.length/\M.append s b=(M.eP i ((M.file i).do ⟨false,0,b⟩),0)):=by
 unfold ak.append;rw [q.off,q.step];cases hg:bH M.now s with
 |none=>exact .inl ⟨rfl,rfl⟩
 |some i=>
  refine .inr ⟨i,rfl,?_⟩;simp only [aip,ao7,Bool.true_eq_false];by_cases h:(M.room:Int)-M.used<b.length
  ·exact .inl ⟨h,by rw [adU h]⟩
  ·exact .inr ⟨h,by rw [abL h]⟩
theorem Pn {M:ak} (q:Quiet M) (s:ByteArray) :
  (M.create s).2≠0/\(M.create s).2≠11/\(M.create s).1=M\/good s=true/\bH M.now s=none/\M.now.length<500/\M.create s=({ M with files:=M.files++[aX.new],now:=jR M.now s M.files.length,waits:=M.waits++[⟨ByteArray.empty,s,M.files.length⟩] },0):=by
 unfold ak.create;rw [q.off,q.step];simp only [aip,ao7,Bool.true_eq_false];by_cases h1:good s=false
 ·rw [adU h1];exact .inl ⟨by simp,by simp,rfl⟩
 rw [abL h1];by_cases h2:(bH M.now s).isSome=true
 ·rw [adU h2];exact .inl ⟨by simp,by simp,rfl⟩
 rw [abL h2];by_cases h3:500<=M.now.length
 ·rw [adU h3];exact .inl ⟨by simp,by simp,rfl⟩
 rw [abL h3];have hg:good s=true:=by simpa using h1
 refine .inr ⟨hg,by simpa using h2,by omega,?_⟩;unfold ak.link gU.on;simp only [apc,abL (tu hg)];rw [q.off]
theorem abu {M:ak} (q:Quiet M){s:ByteArray}{i:Nat} (h:bH M.now s=some i):M.remove s=(M.link ⟨s,ByteArray.empty,0⟩,0):=by
 unfold ak.remove;rw [q.off,q.step,h];simp
theorem KR {l:Names}{s t:ByteArray} (h:s≠t):bH (dS l t) s=bH l s:=by
 induction l with
 |nil=>rfl
 |cons p l ih=>
  unfold bH dS at *
  rw [ao5];by_cases e:p.1=t
  ·rw [abL (by simp [bne,mM,e])];rw [ih,apU];have:(p.1==s)=false:=by rw [mM,e];exact aea (λhh=>h hh.symm)
   rw [this]
  ·rw [adU (by simp [mM,bne,e]),apU,apU];cases (p.1==s)
   ·exact ih
   ·rfl
theorem ajT {l:Names}{s t:ByteArray}{i:Nat} (h:s≠t):bH (jo l t i) s=bH l s:=by
 have ht:(t==s)=false:=by rw [mM];exact aea (λhh=>h hh.symm)
 induction l with
 |nil=>unfold jo bH;simp [ht]
 |cons p l ih=>
  unfold jo;split
  ·unfold bH;rw [apU,ht]
  ·unfold bH at *
   rw [apU,apU];cases (p.1==s)
   ·exact ih
   ·rfl
theorem KU {l:Names}{s t:ByteArray}{i:Nat} (h:s≠t):bH (jR l t i) s=bH l s:=by
 unfold jR;rw [ajT h,KR h]
theorem RG {l:Names} (hs:oP l) (s:ByteArray) (i:Nat):bH (jR l s i) s=some i:=
 Ep (hs.put s i).keys ((wU l s i).mem_iff.2 (.head _))
theorem ajF (l:Names) (s:ByteArray) (i:Nat):dS (jo l s i) s=dS l s:=by
 induction l with
 |nil=>unfold jo dS;simp [bne,mM]
 |cons p l ih=>
  unfold jo;split
  ·unfold dS;rw [ao5,abL (by simp [bne,mM])]
  ·unfold dS at *
   rw [ao5,ao5,ih]
theorem aaA {l:Names}{s:ByteArray}{i:Nat} (h:bH l s=none):dS (jR l s i) s=l:=by
 unfold jR;rw [ajF,CJ h,CJ h]
structure Calm (K room:Nat) (M:ak):Prop where
 ok:M.Ok K
 quiet:Quiet M
 dst:tZ M
 used:M.used<=M.room
 room:M.room=room
section
variable {K r:Nat}{M:ak}{L:Log}
theorem Calm.mono {K':Nat} (h:Calm K r M) (hk:K<=K'):Calm K' r M:=⟨h.ok.mono hk,h.quiet,h.dst,h.used,h.room⟩
theorem Calm.new (K r:Nat) (h:r<=16777216):Calm K r (new r):=⟨ak.Ok.new K r h,Quiet.new r,List.nodup_nil,ad4 _,rfl⟩
theorem Calm.create (h:Calm K r M) (s:ByteArray):Calm (K+1) r (M.create s).1:=by
 have f:=(Fits.does h.ok h.dst h.used ⟨0,s,s,0,0,[],[]⟩ (show (0:Int)≠8 by decide) (show (0:Int)≠9 by decide)).1;exact ⟨h.ok.create s,h.quiet.create s,f.dst,f.used,f.room.trans h.room⟩
theorem Calm.append (h:Calm K r M) (s:ByteArray) (b:Bs):Calm (K+1) r (M.append s b).1:=by
 have f:=(Fits.does h.ok h.dst h.used ⟨1,s,s,0,0,b,[]⟩ (show (1:Int)≠8 by decide) (show (1:Int)≠9 by decide)).1;exact ⟨h.ok.append s b,h.quiet.append s b,f.dst,f.used,f.room.trans h.room⟩
theorem Calm.remove (h:Calm K r M) (s:ByteArray):Calm (K+1) r (M.remove s).1:=by
 have f:=(Fits.does h.ok h.dst h.used ⟨4,s,s,0,0,[],[]⟩ (show (4:Int)≠8 by decide) (show (4:Int)≠9 by decide)).1;exact ⟨h.ok.remove s,h.quiet.remove s,f.dst,f.used,f.room.trans h.room⟩
theorem Calm.sync (h:Calm K r M) (s:ByteArray):Calm (K+1) r (M.sync s).1:=by
 have f:=(Fits.does h.ok h.dst h.used ⟨5,s,s,0,0,[],[]⟩ (show (5:Int)≠8 by decide) (show (5:Int)≠9 by decide)).1;exact ⟨h.ok.sync s,h.quiet.sync s,f.dst,f.used,f.room.trans h.room⟩
theorem Calm.dH (h:Calm K r M):Calm K r M.dH.1:=by
 have f:=(Fits.does h.ok h.dst h.used ⟨6,ByteArray.empty,ByteArray.empty,0,0,[],[]⟩ (show (6:Int)≠8 by decide) (show (6:Int)≠9 by decide)).1;exact ⟨h.ok.dH,h.quiet.dH,f.dst,f.used,f.room.trans h.room⟩
def Has (L:Log) (M:ak):Prop:=∀ s∈L.l,∃ i,bH M.now (name s.1)=some i
structure Keeps (K r:Nat) (L:Log) (M:ak):Prop where
 log:L.Ok
 calm:Calm K r M
 has:Has L M
theorem Keeps.mono {K':Nat} (h:Keeps K r L M) (hk:K<=K'):Keeps K' r L M:=⟨h.log,h.calm.mono hk,h.has⟩
theorem Ub {x:aj.aJ} (h:(aj.encode x).2=0) (hk:x.key.length=32):(aj.encode x).1.length=aj.size x:=by
 unfold aj.encode at *
 split at h
 ·rename_i hc;exact absurd h hc
 ·rename_i hc;rw [abL hc];unfold aj.body aj.size;simp only [aa7,aj.iE,ae3,abL hc];split
  ·rename_i ht;have:x.data.length=0:=by
    simp only [Decidable.not_not]at hc;unfold aj.check at hc;rw [ht]at hc;simp only [show ¬ ((2:Int)=0) by decide,ao7,apc]at hc;split at hc
    ·cases hc
    split at hc
    ·cases hc
    omega
   simp;omega
  ·omega
end
theorem Ib (n:Int) (h1:0<=n) (h2:n<1048576):number (name n)=(n,true):=by
 unfold name;rw [abL oQ];unfold number;have hl:(lead++gY n.toNat 8).length=12:=by rw [aa7,sU];rfl
 have hd:(lead++gY n.toNat 8).drop 4=gY n.toNat 8:=rfl;have ht:(lead++gY n.toNat 8).take 4=lead:=rfl;have hv:=anN 8 n.toNat oQ;simp only [hl,hd,ht,Pq,hv,true_and];rw [adU oQ];simp only [Prod.mk.injEq,and_true];omega
end Go.Seg
namespace Go.Proofs.Y
open Go.ak
end Go.Proofs.Y
namespace Go.aj
theorem Yo {l:Bs} (h:l.length=4):∃ c0 c1 c2 c3,l=[c0,c1,c2,c3]:=by
 match l,h with
 |[c0,c1,c2,c3],_=>exact ⟨c0,c1,c2,c3,rfl⟩
theorem JM {x:aJ} (h:(encode x).2=0):check x=0/\(encode x).1=le (crc (body x)) 4++body x:=by
 unfold encode at *
 split at h
 ·rename_i hc;exact absurd h hc
 ·rename_i hc;rw [abL hc];exact ⟨by simpa using hc,rfl⟩
theorem F6 {x:aJ} (h:check x=0):x.tag=0/\x.data.length<=16384\/x.tag=2/\x.key=zero32/\x.data=[]\/x.tag=1/\x.data=[]:=by
 unfold check at h;split at h
 ·rename_i t;split at h
  ·cases h
  ·exact .inl ⟨t,by omega⟩
 split at h
 ·rename_i t;split at h
  ·cases h
  rename_i hk;split at h
  ·cases h
  rename_i hd;exact .inr (.inl ⟨t,by simpa using hk,ae9 oQ⟩)
 split at h
 ·rename_i t;split at h
  ·cases h
  rename_i hd;exact .inr (.inr ⟨t,ae9 oQ⟩)
 ·cases h
theorem SX {x:aJ} (h:(encode x).2=0) (hk:x.key.length=32) (rest:Bs):read ((encode x).1++rest)=(x,(encode x).1.length,0):=by
 have hz:=Seg.Ub h hk;obtain ⟨hc,he⟩:=JM h;have hs:size x=9\/41<=size x:=by
  unfold size;rw [abL (by simp [hc])];by_cases ht:x.tag=2
  ·rw [adU ht];omega
  ·rw [abL ht];omega
 have hs2:size x<=16425:=by
  rcases F6 hc with ⟨t,d⟩|⟨t,k,d⟩|⟨t,d⟩
  all_goals
   unfold size;rw [abL (by simp [hc])];by_cases ht:x.tag=2
   ·rw [adU ht];omega
   ·rw [abL ht]
    first|omega|(rw [d];simp)
 obtain ⟨c0,c1,c2,c3,hC⟩:=Yo (iE (crc (body x)) 4);obtain ⟨s0,s1,s2,s3,hS⟩:=Yo (iE (size x) 4);have hnum:num [s0,s1,s2,s3]=size x:=by rw [<-hS];exact CP 4 _ oQ
 have BP:num [c0,c1,c2,c3]=crc (body x):=by rw [<-hC];exact CP 4 _ (D5 _)
 have hb:body x=[s0,s1,s2,s3]++(UInt8.ofNat x.tag.toNat::((if x.tag=2 then [] else x.key)++x.data)):=by unfold body;rw [hS];simp
 have hE:(encode x).1=c0::c1::c2::c3::s0::s1::s2::s3::UInt8.ofNat x.tag.toNat::((if x.tag=2 then [] else x.key)++x.data):=by rw [he,hC,hb];rfl
 have hlen:((if x.tag=2 then [] else x.key)++x.data).length+9=size x:=by rw [<-hz,hE];simp
 have hT:UInt8.ofNat x.tag.toNat=0/\x.tag=0/\41<=size x\/UInt8.ofNat x.tag.toNat=1/\x.tag=1/\size x=41\/UInt8.ofNat x.tag.toNat=2/\x.tag=2/\size x=9:=by
  rcases F6 hc with ⟨t,d⟩|⟨t,k,d⟩|⟨t,d⟩
  ·left;rw [t];refine ⟨rfl,rfl,?_⟩;unfold size;rw [abL (by simp [hc]),abL (by rw [t];decide)];omega
  ·right;right;rw [t];refine ⟨rfl,rfl,?_⟩;unfold size;rw [abL (by simp [hc]),adU t]
  ·right;left;rw [t];refine ⟨rfl,rfl,?_⟩;unfold size;rw [abL (by simp [hc]),abL (by rw [t];decide),d];rfl
 have hfit:fits (UInt8.ofNat x.tag.toNat) (size x)=true:=by
  rcases hT with ⟨a,_,b⟩|⟨a,_,b⟩|⟨a,_,b⟩
  ·rw [a];unfold fits;rw [adU rfl,ad5];omega
  ·rw [a];unfold fits;rw [abL aG,adU rfl,ad5];omega
  ·rw [a];unfold fits;rw [abL aG,abL aG,adU rfl,ad5];omega
 generalize hP:(if x.tag=2 then [] else x.key)++x.data=P at *
 generalize hG:UInt8.ofNat x.tag.toNat=T at *
 have hL:((encode x).1++rest)=c0::c1::c2::c3::s0::s1::s2::s3::T::(P++rest):=by rw [hE];rfl
 have hll:(c0::c1::c2::c3::s0::s1::s2::s3::T::(P++rest)).length=size x+rest.length:=by simp;omega
 have htk:(c0::c1::c2::c3::s0::s1::s2::s3::T::(P++rest)).take (size x)=c0::c1::c2::c3::s0::s1::s2::s3::T::P:=by
  have:c0::c1::c2::c3::s0::s1::s2::s3::T::(P++rest)=(c0::c1::c2::c3::s0::s1::s2::s3::T::P)++rest:=rfl;rw [this,aeT yT0,adZ yT0]
 rw [hz,hL];unfold read;dsimp only;rw [abL (by rw [hll];omega)];have hn:num (((c0::c1::c2::c3::s0::s1::s2::s3::T::(P++rest)).drop 4).take 4)=size x:=hnum;have h8:(c0::c1::c2::c3::s0::s1::s2::s3::T::(P++rest)).getD 8 0=T:=rfl;have h4:num ((c0::c1::c2::c3::s0::s1::s2::s3::T::(P++rest)).take 4)=crc (body x):=BP;rw [hn,h8,hfit,abL aG,abL (by rw [hll];omega),htk,h4];have hdr:(c0::c1::c2::c3::s0::s1::s2::s3::T::P).drop 4=body x:=by rw [hb];rfl
 rw [hdr,abL yF0];have h9:(c0::c1::c2::c3::s0::s1::s2::s3::T::(P++rest)).drop 9=P++rest:=rfl;have rJ:(c0::c1::c2::c3::s0::s1::s2::s3::T::P).drop 41=P.drop 32:=rfl;rw [h9,rJ];rcases hT with ⟨a,t,b⟩|⟨a,t,b⟩|⟨a,t,b⟩
 ·rw [adU b];rw [abL (by rw [t];decide)]at hP;have e1:(P++rest).take 32=x.key:=by rw [<-hP,ad2,aeT oQ,adZ oQ]
  have e2:P.drop 32=x.data:=by rw [<-hP,apM,aeI oQ,hk];simp
  rw [e1,e2,a];obtain ⟨tag,key,data⟩:=x;simp only at t ⊢;rw [t];rfl
 ·rw [adU oQ];rw [abL (by rw [t];decide)]at hP;have e1:(P++rest).take 32=x.key:=by rw [<-hP,ad2,aeT oQ,adZ oQ]
  have e2:P.drop 32=x.data:=by rw [<-hP,apM,aeI oQ,hk];simp
  rw [e1,e2,a];obtain ⟨tag,key,data⟩:=x;simp only at t ⊢;rw [t];rfl
 ·rw [abL oQ,a];rcases F6 hc with ⟨t',d⟩|⟨t',k,d⟩|⟨t',d⟩
  ·rw [t]at t';cases t'
  ·obtain ⟨tag,key,data⟩:=x;simp only at t k d ⊢;rw [t,k,d];rfl
  ·rw [t]at t';cases t'
def encs (l:List aJ):Bs:=l.flatMap λx=>(encode x).1
def dV (x:aJ):Prop:=(encode x).2=0/\x.key.length=32
def gy:List aJ->Nat->List dK
 |[],_=>[]
 |x::l,at_=>⟨x,at_,(encode x).1.length⟩::gy l (at_+(encode x).1.length)
theorem BJ:∀ (l:List aJ) (at_:Nat),(gy l at_).map (·.e)=l
 |[],_=>rfl
 |x::l,at_=>by rw [gy,aes,BJ l]
theorem agQ {x:aJ} (h:dV x):0<(encode x).1.length:=List.length_pos_iff.2 (Seg.agP x h.1)
theorem acy:∀ (l:List aJ) (k at_:Nat),(∀ x∈l,dV x)->(encs l).length<=k->nS k (encs l) at_=(gy l at_,at_+(encs l).length,0)
 |[],k,at_,_,_=>by
  cases k with
  |zero=>rfl
  |succ k=>rfl
 |x::l,k,at_,hg,hk=>by
  have h1:=hg x (.head _);have e:encs (x::l)=(encode x).1++encs l:=rfl;have hp:=agQ h1;rw [e,aa7]at hk;cases k with
  |zero=>omega
  |succ k=>
   have hr:=SX h1.1 h1.2 (encs l);have hd:((encode x).1++encs l).drop (encode x).1.length=encs l:=by simp
   rw [e];unfold nS;rw [abL (by intro hh;have:=aeO List.length hh;rw [aa7]at this;simp only [ae0]at this;omega),hr];simp only [ne_eq,not_true_eq_false,ao7,hd];rw [acy l k (at_+(encode x).1.length) (λy hy=>hg y (.tail _ hy)) oQ];simp only [gy,aa7,apq]
theorem L8 (l:List aJ) (hg:∀ x∈l,dV x):scan (Seg.mag++encs l)=(gy l 8,(Seg.mag++encs l).length,0):=by
 unfold scan;rw [adU ah];have e:(Seg.mag++encs l).drop 8=encs l:=rfl;rw [e,acy l _ 8 hg (by rw [aa7];omega),aa7]
 rfl
end Go.aj
namespace Go.Seg
open Go.ak
open Go.aj (encs dV)
theorem aaz {a b:Int} (ha:0<=a) (ha2:a<1048576) (hb:0<=b) (hb2:b<1048576) (h:name a=name b):a=b:=by
 have h1:=Ib a ha ha2;have h2:=Ib b hb hb2;rw [h]at h1;rw [h1]at h2;exact aeO Prod.fst h2
theorem YB (n:Int) (h1:0<=n) (h2:n<1048576):good (name n)=true:=by
 unfold name;rw [abL oQ];unfold good;have hl:(lead++gY n.toNat 8).length=12:=by rw [aa7,sU];rfl
 have hs:(⟨(lead++gY n.toNat 8).toArray⟩:ByteArray).size=12:=by show (lead++gY n.toNat 8).toArray.size=12;simp [hl]
 rw [hs];simp only [ajk];have hd:(gY n.toNat 8).all l9=true:=by
  rw [agt];intro c hc;have:=(agt.1 (Pq 8 n.toNat)) c hc;unfold nR at this;rw [aeW,ad5,ad5]at this;unfold l9;have e1:(48:UInt8)<=c:=UInt8.le_iff_toNat_le.2 this.1;have e2:c<=57:=UInt8.le_iff_toNat_le.2 this.2;simp [e1,e2]
 rw [hd]
 rfl
theorem agK {M:ak}{K r:Nat} (h:Calm K r M){s t:ByteArray}{i:Nat} (h1:bH M.now s=some i) (h2:bH M.now t=some i):t=s:=by
 by_cases e:t=s
 ·exact e
 ·exfalso;have:=(UK h.ok.fU.oM h.dst h1).1 (t,i) (aex.2 ⟨ji h2,by simpa [bne,mM] using e⟩);exact this rfl
theorem all_some {M:ak} (q:Quiet M){s:ByteArray}{i:Nat} (h:bH M.now s=some i):M.all s=((M.file i).now,0):=by
 unfold ak.all;rw [q.off,h];rfl
theorem all_none {M:ak} (q:Quiet M){s:ByteArray} (h:bH M.now s=none):M.all s=([],9):=by
 unfold ak.all;rw [q.off,h];rfl
section
variable {K r:Nat}{M:ak}{L:Log}
theorem Wq (h:Calm K r M){s:ByteArray}{i:Nat} (hi:bH M.now s=some i) (b:Bs) (hr:M.used+b.length<=M.room) :
  (M.append s b).2=0/\(M.append s b).1.now=M.now/\(M.append s b).1.used=M.used+b.length/\(M.append s b).1.all s=((M.all s).1++b,0)/\∀ t,t≠s->(M.append s b).1.all t=M.all t:=by
 have hlt:i<M.files.length:=h.ok.fU.ids _ (ji hi);rcases OJ h.quiet s b with ⟨a1,_⟩|⟨j,a1,⟨a2,a3⟩|⟨a2,a3⟩⟩
 ·rw [hi]at a1;cases a1
 ·exfalso;omega
 rw [hi]at a1;cases a1;have hq:=(h.append s b).quiet;rw [a3]at hq ⊢;refine ⟨rfl,rfl,?_,?_,λt ht=>?_⟩
 ·have:=adr h.ok h.dst hi ((M.file i).do ⟨false,0,b⟩);have e:((M.file i).do ⟨false,0,b⟩).now.length=(M.file i).now.length+b.length:=by simp [aX.do,gX.on]
  rw [e]at this;show (M.eP i _).used=_;omega
 ·rw [all_some hq (show bH (M.eP i _).now s=some i from hi),all_some h.quiet hi];show (((M.eP i _).file i).now,(0:Int))=_;rw [zx hlt,adU rfl];rfl
 ·cases hj:bH M.now t with
  |none=>rw [all_none hq (show bH (M.eP i _).now t=none from hj),all_none h.quiet hj]
  |some j=>
   rw [all_some hq (show bH (M.eP i _).now t=some j from hj),all_some h.quiet hj];show (((M.eP i _).file j).now,(0:Int))=_;rw [zx hlt,abL (λe=>ht (agK h hi (by rw [<-e];exact hj)))]
theorem Xn (h:Calm K r M){s:ByteArray} (hg:good s=true) (hn:bH M.now s=none) (hl:M.now.length<500) :
  (M.create s).2=0/\(M.create s).1.now=jR M.now s M.files.length/\(M.create s).1.used=M.used/\(M.create s).1.all s=([],0)/\∀ t,t≠s->(M.create s).1.all t=M.all t:=by
 rcases Pn h.quiet s with ⟨c1,c2,c3⟩|⟨_,_,_,c⟩
 ·exfalso;apply c1;unfold ak.create;rw [h.quiet.off,h.quiet.step,hg,hn];simp only [aip,ao7,Bool.true_eq_false,Option.isSome_none];rw [abL oQ]
 have hq:=(h.create s).quiet;rw [c]at hq ⊢;refine ⟨rfl,rfl,?_,?_,λt ht=>?_⟩
 ·show ((jR M.now s M.files.length).map λp=>((M.files++[aX.new]).getD p.2 aX.new).now.length).sum=_;rw [IB _ _ _ (λj=>((M.files++[aX.new]).getD j aX.new).now.length),CJ hn];have e0:((M.files++[aX.new]).getD M.files.length aX.new).now.length=0:=by simp [aX.new]
  rw [e0,aeE];refine ak.Uh (g:=λj=>((M.files++[aX.new]).getD j aX.new).now.length) (h:=λj=>(M.file j).now.length) λp hp=>?_;have:=h.ok.fU.ids p hp;simp only [ak.file,adV];rw [aek this]
 ·refine (all_some hq (i:=M.files.length) (RG h.ok.fU.oM _ _)).trans ?_;simp [ak.file,aX.new]
 ·have e:=KU (l:=M.now) (i:=M.files.length) ht;cases hj:bH M.now t with
  |none=>rw [hj]at e;exact (all_none hq e).trans (all_none h.quiet hj).symm
  |some j=>
   rw [hj]at e;refine (all_some hq e).trans ?_;rw [all_some h.quiet hj];have:=h.ok.fU.ids _ (ji hj);simp only [ak.file,adV];rw [aek this]
theorem akY (q:Quiet M){s:ByteArray}{l:Bs} (h:M.all s=(l,0)){a n:Nat} (hn:a+n<=l.length):M.read s a n=((l.drop a).take n,0):=by
 unfold ak.all at h;unfold ak.read;rw [q.off]at h ⊢;simp only [aip,ao7]at h ⊢;split at h
 ·cases h
 ·rename_i i hi;cases h;rw [abL oQ,abL oQ];simp
structure Holds (n:Nat) (L:Log) (M:ak) (C:List (List aj.aJ)):Prop where
 keeps:Keeps (n*5) 1048576 L M
 len:L.l.length=C.length
 at_:∀ (k:Nat) (es:List aj.aJ),C[k]?=some es->L.l[k]?=some ((k:Int),8+((encs es).length:Int))
 file:∀ (k:Nat) (es:List aj.aJ),C[k]?=some es->M.all (name k)=(mag++encs es,0)
 good:∀ es∈C,(∀ x∈es,dV x)/\es≠[]
 fit:∀ es∈C,8+((encs es).length:Int)<=L.limit\/es.length=1
 count:C.length<=n
 used:M.used<=n*400
 names:M.now.length<=n
 only:∀ (s:ByteArray) (i:Nat),bH M.now s=some i->∃ k:Nat,k<C.length/\s=name k
def put (C:List (List aj.aJ)) (on:Bool) (x:aj.aJ):List (List aj.aJ):=if on then C.dropLast++[C.getLastD []++[x]] else C++[[x]]
theorem Gf (a b:List aj.aJ):encs (a++b)=encs a++encs b:=by unfold encs;rw [aeB]
variable {n:Nat}{C:List (List aj.aJ)}
end
structure Cal where
 kind:Int
 e:aj.aJ
 n:Int
 p:aZ
 l:List Int
def Cal.cut (c:Cal):Cal:=⟨c.kind,aj.D6 300 c.e,c.n,c.p,c.l.take 60⟩
end Go.Seg
namespace Go.Proofs.Y
open Go.ak
theorem anU (x lo hi:Int) (h:lo<=hi):lo<=within x lo hi/\within x lo hi<=hi:=by
 unfold within;split
 ·exact ⟨ape _,h⟩
 ·split <;> omega
end Go.Proofs.Y
namespace Go.Seg
open Go.ak
theorem DZ {K:Nat}{L:Log}{M:ak} (h:M.Ok K) (n:Int):(L.bytes M n).1.length<=16777216:=by
 unfold Log.bytes;split
 ·simp
 ·unfold ak.all;split
  ·simp
  split
  ·simp
  ·exact (h.file _).uT
open Go.ak
open Go.aj (encs dV)
section
variable {n:Nat}{M:ak}{L:Log}{C:List (List aj.aJ)}
def agj (C:List (List aj.aJ)):Prop:=∀ es∈C,∀ (k:Nat) (x:aj.aJ),es[k]?=some x->x.tag=2->k+1=es.length
def ajX (es:List aj.aJ):Prop:=∀ x∈es,x.tag≠2
structure Tail (on:Bool) (C:List (List aj.aJ)):Prop where
 last:agj C
 tail:on=true->ajX (C.getLastD [])
end
end Go.Seg
namespace Go.Proofs.Y
open Go.ak
theorem Yk {fs:List (aj.dK×Value)}{v:Value} (hk:∀ p∈fs,p.1.e.key.length=32) (h:Sat w0 w (aC 154 36 v (iF fs)::R)):∃ a c,v=.slice a fs.length c:=by
 obtain ⟨a,n,c,rfl,hl,hx⟩:=Sat.rd h;rw [PX hk]at hl;obtain rfl:n=fs.length:=by omega
 exact ⟨a,c,rfl⟩
theorem Xt:∀ (fs:List (aj.dK×Value)) (i:Nat) (p:aj.dK×Value),fs[i]?=some p->∃ G,kQ fs=star (aY p.2 p.1.e.data) G
 |[],_,_,h=>by cases h
 |x::fs,0,p,h=>by
  obtain rfl:x=p:=by simpa using h
  exact ⟨_,rfl⟩
 |x::fs,i+1,p,h=>by
  obtain ⟨G,hG⟩:=Xt fs i p yL0;refine ⟨star (aY x.2 x.1.e.data) G,?_⟩;show star (aY x.2 x.1.e.data) (kQ fs)=_;rw [hG,xg]
theorem Po {fs:List (aj.dK×Value)}{i:Nat}{p:aj.dK×Value} (h:fs[i]?=some p):Ro w0 (kQ fs::R) (aW 1 p.2 (aB p.1.e.data)):=λw hw=>by
 obtain ⟨G,hG⟩:=Xt fs i p h;rw [hG]at hw;exact Sat.rd (Sat.star.1 hw)
theorem O5 {l:Bs} (h:Sat w0 w (aY v l::R)):nN v/\∃ a c,v=.slice a l.length c:=by
 refine ⟨afX h,?_⟩;obtain ⟨a,n,c,rfl,_,_,rfl⟩:=Bj h;exact ⟨a,c,rfl⟩
end Go.Proofs.Y
namespace Go.aj
theorem acw:∀ (k:Nat) (b:Bs) (at_:Nat),(nS k b at_).1.length<=k
 |0,_,_=>ab1 0
 |k+1,b,at_=>by
  unfold nS;split
  ·exact ad4 _
  split
  ·exact ad4 _
  ·simp only [aev];have:=acw k;exact Nat.succ_le_succ (this _ _)
theorem acB (b:Bs):(scan b).1.length<=b.length:=by
 unfold scan;split
 ·exact acw _ _ _
 ·exact ad4 _
end Go.aj
namespace Go.Proofs.Y
open Go.ak
abbrev dD (L:Seg.Log) (M:ak):Rep.Told:=λn=>L.bytes M n
section
variable {L:Seg.Log}
theorem split_c (hL:L.Ok) (hM:M.Ok K) (hH:Ro w0 F Half) (h:Sat w0 w (aC 3 1 sv (ints L.aH)::aV p m L::aI m M::F)) :
  Calls prog 149 #[ptr p,sv] w (aN λv w'=>v=.tuple #[.int .i64 (Rep.split (dD L M) L.aH L.aH.length).1,errno (Rep.split (dD L M) L.aH L.aH.length).2] /\
   Sat w0 w' (aC 3 1 sv (ints L.aH)::aV p m L::aI m M::F)):=by
 have HL:=uQ hL;have HM:=uQ hM;have HH:=uQ hH;have Hlen:=uQ (show L.aH.length<=1073741824 from by unfold Seg.Log.aH;rw [abl];have:=hL.len;omega);obtain ⟨sa,sc,rfl⟩:∃ a c,sv=.slice a L.aH.length c:=by
  obtain ⟨a,n,c,rfl,hl,_⟩:=Sat.rd h;refine ⟨a,c,?_⟩;rw [show (ints L.aH).length=L.aH.length from abl ..,aeo]at hl;rw [hl]
 have w1:IntKind.i64.wrap ((L.aH.length:Int)-1)=(L.aH.length:Int)-1:=acO _ yS0;clear hL hM hH;go_enter func149,ntmps149;go_wp2_with fail
 go_loopg [6] L.aH.length (λg iq wr=>∃ k:Nat,g=0+k/\k<=L.aH.length/\iq=.int .i64 ((k:Int)-1)/\Rep.split (dD L M) L.aH L.aH.length=Rep.split (dD L M) L.aH k /\
  Sat w0 wr (aC 3 1 (.slice sa L.aH.length sc) (ints L.aH)::aV p m L::aI m M::F))
 case atStart=>exact ⟨L.aH.length,(aeE _).symm,ab1 _,rfl,rfl,h⟩
 case round=>
  obtain ⟨k,rfl,hk,rfl,he,hS⟩:=hrel;clear h;cases k with
  |zero=>
   have c1:¬ (((0:Nat):Int)-1)>=0:=by decide
   have He:=uQ he;clear he;go_wp2_with fail
   go_ret2
   rw [He.o];exact ⟨_,rfl,rfl,hS⟩
  |succ k=>
   have e1:((k+1:Nat):Int)-1=(k:Int):=oQ;rw [e1];have c1:(k:Int)>=0:=oQ;have c2:(k:Int)<(L.aH.length:Int):=oQ;have w2:IntKind.i64.wrap ((k:Int)-1)=(k:Int)-1:=acO _ yS0;have w3:IntKind.i64.wrap ((k:Int)+1)=((k+1:Nat):Int):=by rw [acO _ yS0];omega
   obtain ⟨s,hs⟩:∃ s,L.aH[k]?=some s:=⟨_,aaJ oQ⟩;have hgd:L.aH.getD k 0=s:=by rw [List.getD,hs];rfl
   have Hu:=uQ (show Rep.split (dD L M) L.aH (k+1)=if (L.bytes M s).2≠0 then (0,(L.bytes M s).2) else if (aj.scan (L.bytes M s).1).2.2=0/\Rep.zo (aj.scan (L.bytes M s).1).1=true then (k+1,0) else Rep.split (dD L M) L.aH k by
    rw [Rep.split,hgd])
   obtain ⟨bk,off,cc,hsv,hcell⟩:=iL (f:=λi:Int=>[Value.int .i64 i]) (k:=1) (l:=L.aH) (λu _=>rfl) (by have:=Sat.rd hS;rw [show ints L.aH=L.aH.flatMap λi=>[Value.int .i64 i] from by unfold ints;exact List.map_eq_flatMap]at this;exact this) hs aG;cases hsv;have f0:=hcell 0 _ rfl;rw [aeo,aml]at f0;have He:=uQ he;have hb:=QY HL.o HM.o s (hS.sb:Sat w0 wr (aV p m L::aI m M::aC 3 1 (.slice (some ⟨bk,off,none⟩) L.aH.length sc) (ints L.aH)::F));have hk':=uQ hk;clear hcell hs hgd he hS hk;go_wp2_with fail;refine hb.mono ?_;rintro ee w3 ⟨v,rfl,bv,rfl,hS3⟩;clear hb;obtain ⟨hcap,ca,cc,rfl⟩:=O5 hS3;by_cases h0:(L.bytes M s).2=0;rotate_left
   ·have hb:((L.bytes M s).2 != 0)=true:=by rw [ahV];exact h0
    have Hf:=uQ (show Rep.split (dD L M) L.aH (k+1)=(0,(L.bytes M s).2) by rw [Hu.o,adU h0]);clear h0;go_wp2_with fail
    go_ret2
    rw [He.o,Hf.o];exact ⟨_,rfl,rfl,hS3.sb⟩
   have hb:((L.bytes M s).2 != 0)=false:=by rw [h0];rfl
   have H0:=uQ h0;rw [h0];clear h0;have hbl:=Seg.DZ (L:=L) HM.o s;have hsc:=Qa (w0:=w0) (w:=w3) (L.bytes M s).1 (Ro.aY _ _) hcap (Ro.os HH.o) (adT hbl aG) hS3;have uh:=uQ hbl;clear hcap hbl;go_wp2_with fail;refine hsc.mono ?_;rintro ee w4 ⟨v,rfl,fs,fv,hfs,hfk,rfl,hS4⟩;clear hsc hS3;obtain ⟨fa,fc,rfl⟩:=Yk hfk hS4;have hS5:Sat w0 w4 (aC 3 1 (.slice (some ⟨bk,off,none⟩) L.aH.length sc) (ints L.aH)::aV p m L::aI m M::F):=hS4.sb;by_cases h1:(aj.scan (L.bytes M s).1).2.2=0;rotate_left
   ·have hb1:((aj.scan (L.bytes M s).1).2.2==0)=false:=by rw [ad3];exact h1
    have Hf:=uQ (show Rep.split (dD L M) L.aH (k+1)=Rep.split (dD L M) L.aH k by rw [Hu.o,abL (λh=>h H0.o),abL (λh=>h1 h.1)]);clear h1 hS4 hfs hfk;go_wp2_with fail
    go_roundg (0+k)
    case measure=>omega
    case rel=>exact ⟨k,rfl,Nat.le_of_succ_le hk'.o,by first|rfl|go_num,He.o.trans Hf.o,hS5⟩
   have hb1:((aj.scan (L.bytes M s).1).2.2==0)=true:=ako.2 h1
   have hen:=agR (w:=w4) fs hfk (by
    have:=aj.acB (L.bytes M s).1;rw [<-hfs,abl]at this;have:=uh.o;omega) (Sat.rd hS4)
   rw [hfs]at hen;clear hS4 hfs hfk;by_cases h2:Rep.zo (aj.scan (L.bytes M s).1).1=true
   ·have Hf:=uQ (show Rep.split (dD L M) L.aH (k+1)=(k+1,0) by rw [Hu.o,abL (λh=>h H0.o),adU ⟨h1,h2⟩]);rw [h2]at hen;clear h1 h2;go_wp2_with fail;refine hen.mono ?_;rintro ee w5 ⟨v,rfl,rfl,rfl⟩;clear hen;go_wp2_with fail
    go_ret2
    rw [He.o,Hf.o];exact ⟨_,rfl,rfl,hS5⟩
   ·have Hf:=uQ (show Rep.split (dD L M) L.aH (k+1)=Rep.split (dD L M) L.aH k by rw [Hu.o,abL (λh=>h H0.o),abL (λh=>h2 h.2)]);rw [Bool.not_eq_true]at h2;rw [h2]at hen;clear h1 h2;go_wp2_with fail;refine hen.mono ?_;rintro ee w5 ⟨v,rfl,rfl,rfl⟩;clear hen;go_wp2_with fail
    go_roundg (0+k)
    case measure=>omega
    case rel=>exact ⟨k,rfl,Nat.le_of_succ_le hk'.o,by first|rfl|go_num,He.o.trans Hf.o,hS5⟩
end
section
variable {t:TypeId}
theorem wY {L R:List aF}{b:Nat}{T:TypeId}{cs:Array Value}{fn:Func}{p:Tmp}{tmps:Array Value}{d:TypeDesc} (hf:fn.results=#[.cell p ty]) (hs:Sat w0 w L) (hp:tmps.getD p undef=.pointer (some ⟨b,0,none⟩)) (k:Pick (pt b (.cells cs T (0,0))) L R)
  (hu:P.underlying ty=some d) (hd:d.isRow=true) (hi:(P.info? ty).map (·.size)=some cs.size):(results fn tmps).run P w=.ok (.agg cs) w:=by
 have hl:=run_loadVar_row (P:=P) w b T ty cs (0,0) d (hs.pick k).at hu (by cases d <;> simp_all [TypeDesc.isRow]) hi;have e:(results fn tmps).run P w=((asAddr (tmps.getD p undef)).run P w).andThen λa w₁=>(loadVar ty a).run P w₁:=by
  simp only [results,hf];simp [aed,Result.andThen]
 rw [e,hp];simp [asAddr,hl,Result.andThen]
end
end Go.Proofs.Y
namespace Go.Rep
def lastOf (bt:Told) (ns:List Int):Int×Int:=
 if (split bt ns ns.length).2≠0 then (0,(split bt ns ns.length).2) else if (split bt ns ns.length).1=0 then (-1,0) else (ns.getD ((split bt ns ns.length).1-1) 0,0)
end Go.Rep
namespace Go.Proofs.Y
open Go.ak
section
variable {L:Seg.Log}
theorem Em {sv:Value}{l:List Int}{i:Nat}{s:Int} (h:aW 1 sv (ints l) w) (hs:l[i]?=some s):∃ bk off c,sv=.slice (some ⟨bk,off,none⟩) l.length c/\w.cell? ⟨bk,off+i,none⟩=some (.int .i64 s):=by
 obtain ⟨bk,off,cc,hsv,hcell⟩:=iL (f:=λi:Int=>[Value.int .i64 i]) (k:=1) (l:=l) (λu _=>rfl) yI0 hs aG;have f0:=hcell 0 _ rfl;rw [aeo,aml]at f0;exact ⟨bk,off,cc,hsv,f0⟩
theorem QM {sv:Value}{l:List Int} (h:aW 1 sv (ints l) w):∃ a c,sv=.slice a l.length c:=by
 obtain ⟨a,n,c,rfl,hl,_⟩:=h;refine ⟨a,c,?_⟩;rw [show (ints l).length=l.length from abl ..,aeo]at hl;rw [hl]
theorem QW (hL:L.Ok) (hM:M.Ok K) (hH:Ro w0 F Half) (h:Sat w0 w (aV p m L::aI m M::F)) :
  Calls prog 120 #[ptr p] w (aN λv w'=>v=.tuple #[.int .i64 (Rep.lastOf (dD L M) L.aH).1,errno (Rep.lastOf (dD L M) L.aH).2]/\Sat w0 w' (aV p m L::aI m M::F)):=by
 have Hlen:=uQ (show L.aH.length<=1073741824 from by unfold Seg.Log.aH;rw [abl];have:=hL.len;omega);have hse:=En hL h;have HL:=uQ hL;have HM:=uQ hM;have HH:=uQ hH;clear hL hM hH h;go_enter func120,ntmps120;go_wp2_with fail;refine hse.mono ?_;rintro ee w1 ⟨v,rfl,hS⟩;clear hse;have hsp:=split_c HL.o HM.o HH.o hS;go_wp2_with fail;refine hsp.mono ?_;rintro ee w2 ⟨v',rfl,rfl,hS2⟩;clear hsp hS;have nX:=uQ (Rep.Uf (dD L M) L.aH L.aH.length);have HS:=uQ (hS2.sb:Sat w0 w2 (aV p m L::aI m M::F));have hrd:=Sat.rd hS2;clear hS2;by_cases h0:(Rep.split (dD L M) L.aH L.aH.length).2=0
 ·have hb:((Rep.split (dD L M) L.aH L.aH.length).2 != 0)=false:=by rw [h0];rfl
  by_cases h1:(Rep.split (dD L M) L.aH L.aH.length).1=0
  ·have Hf:=uQ (show Rep.lastOf (dD L M) L.aH=(-1,0) by unfold Rep.lastOf;rw [abL (λh=>h h0),adU h1]);have hb1:(((Rep.split (dD L M) L.aH L.aH.length).1:Int)==0)=true:=by rw [h1];rfl
   clear hrd h0 h1;go_wp2_with fail
   go_ret2
   rw [Hf.o];exact ⟨_,rfl,rfl,HS.o⟩
  ·have Hf:=uQ (show Rep.lastOf (dD L M) L.aH=(L.aH.getD ((Rep.split (dD L M) L.aH L.aH.length).1-1) 0,0) by unfold Rep.lastOf;rw [abL (λh=>h h0),abL h1]);have hle:=nX.o;generalize (Rep.split (dD L M) L.aH L.aH.length).1=n at *
   have hb1:((n:Int)==0)=false:=by rw [ad3];omega
   have w1:IntKind.i64.wrap ((n:Int)-1)=((n-1:Nat):Int):=by rw [acO _ yS0];omega
   have hlt:n-1<L.aH.length:=oQ;have hs:L.aH[n-1]?=some (L.aH.getD (n-1) 0):=by rw [List.getD,aaJ hlt];rfl
   generalize L.aH.getD (n-1) 0=s at *
   generalize n-1=j at *
   obtain ⟨bk,off,c,rfl,f0⟩:=Em hrd hs;have c1:(0:Int)<=(j:Int):=oQ;have c2:(j:Int)<(L.aH.length:Int):=oQ;clear hrd h0 h1 hs hlt hle;go_wp2_with fail
   go_ret2
   rw [Hf.o];exact ⟨_,rfl,rfl,HS.o⟩
 ·have hb:((Rep.split (dD L M) L.aH L.aH.length).2 != 0)=true:=by rw [ahV];exact h0
  have Hf:=uQ (show Rep.lastOf (dD L M) L.aH=(0,(Rep.split (dD L M) L.aH L.aH.length).2) by unfold Rep.lastOf;rw [adU h0]);clear hrd h0;go_wp2_with fail
  go_ret2
  rw [Hf.o];exact ⟨_,rfl,rfl,HS.o⟩
end
section
variable {t:TypeId}{pos:String}{x:Operand}{v1 v2:Value}{i1 i2:Nat}
theorem IW (h1:a.eval x=v1) (h2:a.eval y=v2) (hr:∀ w,(Instr.build ty #[(i1,v1),(i2,v2)]).run P w=.ok v w) (h:wpList P ops Q rest (a.put dst v) w) :
  wpList P ops Q (⟨dst,.build ty #[(i1,x),(i2,y)],t,pos,after,none⟩::rest) a w:=
 ae5 rfl λ_ hK=>by
  unfold Oper.wp execOp;simp only [ahS,aes,ah3,h1,h2,aed,hr,adW,aep];exact hK _ _ h
theorem UO (hr:∀ w,(Instr.build ty #[]).run P w=.ok v w) (h:wpList P ops Q rest (a.put dst v) w):wpList P ops Q (⟨dst,.build ty #[],t,pos,after,none⟩::rest) a w:=
 ae5 rfl λ_ hK=>by
  unfold Oper.wp execOp;simp only [ahS,ah3,aed,hr,adW,aep];exact hK _ _ h
theorem zX {L R:List aF}{b:Nat}{T:TypeId}{cs:Array Value}{fn:Func}{t p u:Tmp}{tmps:Array Value}{d:TypeDesc} (hf:fn.results=#[.tmp t,.cell p ty,.tmp u]) (hs:Sat w0 w L) (hp:tmps.getD p undef=.pointer (some ⟨b,0,none⟩)) (k:Pick (pt b (.cells cs T (0,0))) L R)
  (hu:P.underlying ty=some d) (hd:d.isRow=true) (hi:(P.info? ty).map (·.size)=some cs.size):(results fn tmps).run P w=.ok (.tuple #[tmps.getD t undef,.agg cs,tmps.getD u undef]) w:=by
 have hl:=run_loadVar_row (P:=P) w b T ty cs (0,0) d (hs.pick k).at hu (by cases d <;> simp_all [TypeDesc.isRow]) hi;have e:(results fn tmps).run P w=((asAddr (tmps.getD p undef)).run P w).andThen λa w₁=>((loadVar ty a).run P w₁).andThen λv w₂=> .ok (.tuple #[tmps.getD t undef,v,tmps.getD u undef]) w₂:=by
  simp only [results,hf];simp [aed,Result.andThen]
 rw [e,hp];simp [asAddr,hl,Result.andThen]
theorem FX (h:Stop (wpList P ops Q (⟨dst,.build ty #[(i1,x),(i2,y)],t,pos,after,none⟩::rest) a w)):wpList P ops Q (⟨dst,.build ty #[(i1,x),(i2,y)],t,pos,after,none⟩::rest) a w:=h.o
theorem OO (h:Stop (wpList P ops Q (⟨dst,.build ty #[],t,pos,after,none⟩::rest) a w)):wpList P ops Q (⟨dst,.build ty #[],t,pos,after,none⟩::rest) a w:=h.o
end
theorem SC:tH prog 36=some [(0,1),(1,1),(2,1),(3,32),(35,1)]:=by kernel_rfl
theorem LX (x y:Int) (w:World):(Instr.build 36 #[(0,.int .i64 x),(1,.int .i64 y)]).run prog w=.ok (.agg (dW ⟨x,y,0⟩)) w:=by
 have h:=apA (P:=prog) [(0,.int .i64 x),(1,.int .i64 y)] SC pY (by
  intro p hp;have hzz:(Value.agg (dW Rep.dI.zero)).cells.size=36:=by rfl
  rw [hzz];rcases ad9.1 hp with rfl|hp
  ·exact ⟨0,rfl,by show 0+1<=36;omega⟩
  ·rw [aeG.1 hp];exact ⟨1,rfl,by show 1+1<=36;omega⟩) w
 exact h
theorem ace (x y z:Int) (w:World):(Instr.build 36 #[(0,.int .i64 x),(1,.int .i64 y),(2,.int .i64 z)]).run prog w=.ok (.agg (dW ⟨x,y,z⟩)) w:=by
 have h:=apA (P:=prog) [(0,.int .i64 x),(1,.int .i64 y),(2,.int .i64 z)] SC pY (by
  intro p hp;have hzz:(Value.agg (dW Rep.dI.zero)).cells.size=36:=by rfl
  rw [hzz];rcases ad9.1 hp with rfl|hp
  ·exact ⟨0,rfl,by show 0+1<=36;omega⟩
  rcases ad9.1 hp with rfl|hp
  ·exact ⟨1,rfl,by show 1+1<=36;omega⟩
  ·rw [aeG.1 hp];exact ⟨2,rfl,by show 2+1<=36;omega⟩) w
 exact h
theorem LV (w:World):(Instr.build 36 #[]).run prog w=.ok (.agg (dW Rep.dI.zero)) w:=apA (P:=prog) [] SC pY yF0 w
theorem ag2 (s:Int) (at_:Nat) (h:Sat w0 w F):Calls prog 151 #[.int .i64 s,.int .i64 at_] w (aN λv w'=>v=.agg (dW (Rep.fault s at_))/\Sat w0 w' F):=by
 have hone:∀ f,(dW f).size=36:=λf=>rfl;by_cases h0:at_=0
 ·have hb:((at_:Int)==0)=true:=by rw [h0];rfl
  have e:=uQ (show Rep.fault s at_=⟨1,s,0⟩ from adU h0);clear h0;go_enter func151,ntmps151;go_wp2_with (with_reducible apply eG);refine ⟨eU pY h rfl ?_⟩;intro b4 w4 h4
  go_wp2_with (first
   |((with_reducible refine FX ⟨?_⟩);refine IW ah ah (λw=>LX 1 s w) ?_)
   |((with_reducible refine bW ⟨?_⟩);refine fG (dW ⟨1,s,0⟩) h4 ah ah ah bU au ah ?_;intro w9 h9))
  refine ⟨rfl,_,wY rfl h9 ah bK underlying36 rfl au,?_⟩;exact ⟨_,rfl,by rw [e.o],h9.drop⟩
 ·have hb:((at_:Int)==0)=false:=by rw [ad3];omega
  have e:=uQ (show Rep.fault s at_=⟨2,s,at_⟩ from abL h0);clear h0;go_enter func151,ntmps151;go_wp2_with (with_reducible apply eG);refine ⟨eU pY h rfl ?_⟩;intro b4 w4 h4
  go_wp2_with (first
   |((with_reducible refine Ju ⟨?_⟩);refine Nh ah ah ah (λw=>ace 2 s at_ w) ?_)
   |((with_reducible refine bW ⟨?_⟩);refine fG (dW ⟨2,s,at_⟩) h4 ah ah ah bU au ah ?_;intro w9 h9))
  refine ⟨rfl,_,wY rfl h9 ah bK underlying36 rfl au,?_⟩;exact ⟨_,rfl,by rw [e.o],h9.drop⟩
end Go.Proofs.Y
namespace Go.Rep
open Go.aj (Bs)
def EG (bt:Told) (ns:List Int) (n:Nat):(dI×Int) ⊕ Nat:=match bad bt (ns.take n) with
 |some x=> .inl x
 |none=> .inr n
def run (bt:Told) (ns:List Int):(dI×Int) ⊕ Nat:=
 if (split bt ns ns.length).2≠0 then .inl (dI.zero,(split bt ns ns.length).2) else EG bt ns (split bt ns ns.length).1
theorem ab4 {bt:Told}{ns:List Int}{n:Nat}{x:dI×Int} (h:bad bt (ns.take n)=some x):EG bt ns n=.inl x:=by unfold EG;rw [h]
theorem ab5 {bt:Told}{ns:List Int}{n:Nat} (h:bad bt (ns.take n)=none):EG bt ns n=.inr n:=by unfold EG;rw [h]
def qO (l:List Int):Int:=match l.getLast? with
 |some s=>s
 |none=> -1
theorem aaI:∀ {l:List Row}{k:Bs}{r:Row},newest l k=some r->r∈l
 |[],_,_,h=>by cases h
 |x::l,k,r,h=>by
  unfold newest at h;split at h
  ·rename_i y hy;cases h;exact .tail _ (aaI hy)
  ·split at h
   ·cases h;exact .head _
   ·cases h
theorem ai9 {l:List Row}{k:Bs}{a:dU} (h:ledger l k=some a):∃ r∈l,a.place=mW r:=by
 unfold ledger at h;cases hn:newest l k with
 |none=>rw [hn]at h;cases h
 |some r=>rw [hn]at h;cases h;exact ⟨r,aaI hn,rfl⟩
theorem alG (bt:Told) (ns:List Int) (n:Nat):∀ r∈rowsOf bt (ns.take n),r∈rowsOf bt ns:=λr hr=>by
 unfold rowsOf at hr ⊢;obtain ⟨s,hs,h⟩:=ao6.1 hr;exact ao6.2 ⟨s,ae2 hs,h⟩
theorem Tz (bt:Told) (ns:List Int) (n:Nat):(rowsOf bt (ns.take n)).length<=(rowsOf bt ns).length:=by
 have e:rowsOf bt ns=rowsOf bt (ns.take n)++rowsOf bt (ns.drop n):=by
  unfold rowsOf;rw [<-aeB,aeX]
 rw [e,aa7];omega
theorem ai7 (l:List Int) (s:Int):qO (l++[s])=s:=by unfold qO;rw [List.getLast?_append];rfl
end Go.Rep
namespace Go.Proofs.Y
open Go.ak
section
variable {K:Act->World->Prop}{E:Prop}{t:TypeId}{pos:String}
theorem PD (hs:Sat w0 w L) (hy:a.eval y=v) (hcs:v.cells=cs)
  (hK:∀ b w',Sat w0 w' (pt b (.cells cs ty (0,0))::L)->K (a.put dst (.pointer (some ⟨b,0,none⟩))) w') :
  if Region.wanted ⟨dst,.box ty y,t,pos,after,none⟩ (yielded ops a.tmps)=true then Oper.wp P ⟨dst,.box ty y,t,pos,after,none⟩ a w K Q else E:=by
 subst hcs;refine BD rfl ?_;have hS:=hs.alloc (.cells v.cells ty);unfold Oper.wp execOp;have hrun:(Instr.box ty v).run P w=.ok (.pointer (some ⟨w.heap.size,0,none⟩)) (w.alloc (.cells v.cells ty)):=by
  simp [Instr.box,newVar,newRow,go_sem]
 simp only [hy,aed,aep,hrun,adW];exact hK _ _ hS
end
theorem anj {l:List Int}{n:Nat} (hn:n<=l.length) (h:Sat w0 w (aC 3 1 sv (ints l)::R)) :
  ∃ tv,(∀ w,(Instr.sliceAt 46 sv (some (.int .i64 n)) none none).run prog w=.ok tv w)/\(∃ a' c',tv=.slice a' (l.length-n) c')/\∀ W,aW 1 sv (ints l) W->aW 1 tv (ints (l.drop n)) W:=by
 rcases h.kL with ⟨rfl,he,h'⟩|⟨g,k,cap,cs,rfl,hl,hk,hc,hcm,htk,hp⟩
 ·obtain rfl:l=[]:=by simpa [ints] using he
  obtain rfl:n=0:=by simpa using hn
  refine ⟨.slice none 0 0,λw=>by go_simp,⟨none,0,rfl⟩,λW hW=>by simpa using hW⟩
 ·obtain rfl:k=l.length:=by simpa [ints] using hl.symm
  by_cases hce:cap=n
  ·have hd:l.drop n=[]:=List.drop_eq_nil_of_le oQ;have e0:l.length-n=0:=oQ;rw [hd,e0];have h1:n<=cap:=oQ;have h2:l.length=n:=oQ;refine ⟨.slice (some ⟨g,0,none⟩) 0 0,λw=>?_,⟨_,_,rfl⟩,λW hW=>⟨_,_,_,rfl,rfl,λj x hj=>by cases hj⟩⟩;have h4:(0:Int)<=(n:Int):=oQ;have h5:(n:Int).toNat=n:=oQ;subst hce;go_simp
  ·refine ⟨.slice (some ⟨g,n,none⟩) (l.length-n) (cap-n),λw=>?_,⟨_,_,rfl⟩,λW hW=>?_⟩
   ·have h4:(0:Int)<=(n:Int):=by omega
    have h5:(n:Int).toNat=n:=oQ;have h6:n<=cap:=oQ;go_simp
   ·obtain ⟨a,n',c,he,hl',hx⟩:=hW;cases he;refine ⟨_,_,_,rfl,by unfold ints;rw [abl,adX,aeo],λj x hj=>⟨_,rfl,?_⟩⟩;have hj2:(ints l)[n+j]?=some x:=by
     unfold ints at hj ⊢;rw [List.map_drop,aoz]at hj;exact hj
    obtain ⟨ad,e,hc'⟩:=hx (n+j) x hj2;cases e;rw [Bd,aeE]at hc';rw [Bd];exact hc'
theorem ahO {l:List Int}{n:Nat} (hn:n<=l.length) (h:Sat w0 w (aC 3 1 sv (ints l)::R)) :
  ∃ a' c',(∀ w,(Instr.sliceAt 46 sv none (some (.int .i64 n)) none).run prog w=.ok (.slice a' n c') w)/\∀ W,aW 1 sv (ints l) W->aW 1 (.slice a' n c') (ints (l.take n)) W:=by
 rcases h.kL with ⟨rfl,he,h'⟩|⟨g,k,cap,cs,rfl,hl,hk,hc,hcm,htk,hp⟩
 ·obtain rfl:l=[]:=by simpa [ints] using he
  obtain rfl:n=0:=by simpa using hn
  refine ⟨none,0,λw=>by go_simp,λW hW=>by simpa using hW⟩
 ·obtain rfl:k=l.length:=by simpa [ints] using hl.symm
  refine ⟨some ⟨g,0,none⟩,cap,λw=>?_,λW hW=>?_⟩
  ·have h4:(0:Int)<=(n:Int):=by omega
   have h5:(n:Int).toNat=n:=oQ;have h6:n<=cap:=oQ;go_simp
  ·obtain ⟨a,n',c,he,hl',hx⟩:=hW;cases he;refine ⟨_,_,_,rfl,by unfold ints;rw [abl,adt,aeo];omega,λj x hj=>?_⟩;refine hx j x ?_;unfold ints at hj ⊢;rw [apY,alM]at hj;split at hj
   ·exact hj
   ·cases hj
theorem fJ.lists {p B:Nat}{m:aj.Bs->Option Rep.dU} (h:Sat w0 w (fJ p m B::R)):∃ kv,Tab.Lists m kv/\(∀ q∈kv,q.1.length=32)/\kv.length<=B:=by
 obtain ⟨t,sv',⟨ok,is,hb⟩,hS⟩:=fJ.open h;have hp:=List.mergeSort_perm (t.slots.filter λx=>decide (x.st=1)) (λa b:Tab.Slot Rep.dU=>decide (¬ b.key<a.key))
 have hw:=List.pairwise_mergeSort (le:=λa b:Tab.Slot Rep.dU=>decide (¬ b.key<a.key)) (λa b c h1 h2=>by
   rw [ad5]at h1 h2 ⊢;intro h3;rcases Tab.FZ a.key b.key with q|q|q
   ·exact h2 (apL h3 q)
   ·exact h2 (q ▸ h3)
   ·exact h1 q) (λa b=>by
   rw [Bool.or_eq_true,ad5,ad5];by_cases q:b.key<a.key
   ·exact .inr λq2=>aps _ (apL q q2)
   ·exact .inl q) (t.slots.filter λx=>decide (x.st=1))
 obtain ⟨h1,h2⟩:=Tab.KG ok.good is hp (hw.imp λ{a b} q=>by rwa [ad5]at q);refine ⟨_,h1,λq hq=>?_,?_⟩
 ·obtain ⟨x,hx,rfl⟩:=adu.1 hq;exact (h2 x hx).2
 ·rw [abl,hp.length_eq,<-apk];have e:t.slots.countP (λx=>decide (x.st=1))=Tab.kS t.slots:=by
   unfold Tab.kS;refine List.countP_congr λx _=>?_;simp
  have:=ok.n;omega
end Go.Proofs.Y
namespace Go.aj
theorem ak1 {b:Bs} (h:(read b).2.2=0):(read b).1.tag=0\/(read b).1.tag=1\/(read b).1.tag=2:=by
 unfold read at *
 dsimp only at *
 split at h
 ·simp at h
 rename_i h9;rw [abL h9];split at h
 ·simp at h
 rename_i hf;rw [abL hf];split at h
 ·simp at h
 rename_i hl;rw [abL hl];split at h
 ·simp at h
 rename_i hc;rw [abL hc];have ht:b.getD 8 0=0\/b.getD 8 0=1\/b.getD 8 0=2:=by
  unfold fits at hf;split at hf
  ·exact .inl aQ
  split at hf
  ·exact .inr (.inl aQ)
  split at hf
  ·exact .inr (.inr aQ)
  ·exact absurd rfl hf
 split
 all_goals
  dsimp only;rcases ht with e|e|e <;> rw [e]
  ·exact .inl rfl
  ·exact .inr (.inl rfl)
  ·exact .inr (.inr rfl)
theorem acA:∀ (k:Nat) (b:Bs) (at_:Nat),∀ f∈(nS k b at_).1,(f.e.tag=0\/f.e.tag=1\/f.e.tag=2)/\f.e.key.length=32/\9<=f.size/\f.size<=b.length
 |0,_,_,f,hf=>by cases hf
 |k+1,b,at_,f,hf=>by
  unfold nS at hf;split at hf
  ·cases hf
  split at hf
  ·cases hf
  rename_i he;have he:(read b).2.2=0:=by simpa using he
  have h1:=zW he;simp only at hf;rcases ad9.1 hf with rfl|hf
  ·exact ⟨ak1 he,h1.2.2,h1.1,h1.2.1⟩
  ·have h2:=acA k _ _ f hf;refine ⟨h2.1,h2.2.1,h2.2.2.1,adT h2.2.2.2 ?_⟩;rw [adX];omega
theorem scan_ok (b:Bs):∀ f∈(scan b).1,(f.e.tag=0\/f.e.tag=1\/f.e.tag=2)/\f.e.key.length=32/\9<=f.size/\f.size<=b.length:=λf hf=>by
 unfold scan at hf;split at hf
 ·have h:=acA _ _ _ f hf;refine ⟨h.1,h.2.1,h.2.2.1,adT h.2.2.2 ?_⟩;rw [adX];omega
 ·cases hf
end Go.aj
namespace Go.Rep
open Go.aj (Bs dK)
open Go.Seg (aZ)
open Go.Tab
theorem abX {bt:Told}{ns:List Int}{r:Row} (h:r∈rowsOf bt ns):r.1∈ns/\r.2∈(aj.scan (bt r.1).1).1:=by
 unfold rowsOf at h;obtain ⟨s,hs,h⟩:=ao6.1 h;obtain ⟨f,hf,rfl⟩:=adu.1 h;exact ⟨hs,hf⟩
theorem alF {bt:Told}{ns:List Int} (hr:ns.Pairwise (· < ·)) (h0:∀ s∈ns,0<=s):Rows (rowsOf bt ns):=by
 refine ⟨λr h=>(aj.scan_ok _ _ (abX h).2).1,λr h=>h0 _ (abX h).1,?_⟩;unfold rowsOf;rw [List.pairwise_flatMap];refine ⟨λs _=>?_,hr.imp λ{a b} hab x hx y hy=>?_⟩
 ·rw [ahB];exact List.pairwise_of_forall λ_ _=>ape s
 ·obtain ⟨_,_,rfl⟩:=adu.1 hx;obtain ⟨_,_,rfl⟩:=adu.1 hy;exact Int.le_of_lt hab
open Go.aj (Bs dK aJ gy encs dV)
open Go.Seg (aZ mag)
open Go.Tab
def Ip:Nat->List (List aJ)->List Row
 |_,[]=>[]
 |k,es::C=>((gy es 8).map λf=>((k:Int),f))++Ip (k+1) C
section
variable {C:List (List aJ)}{bt:Told}{k n:Nat}
theorem abZ:∀ (C:List (List aJ)) (k:Nat),(∀ j es,C[j]?=some es->bt ((k+j:Nat):Int)=(mag++encs es,0)/\∀ x∈es,dV x)->rowsOf bt ((List.range' k C.length).map λi=>((i:Nat):Int))=Ip k C
 |[],k,_=>rfl
 |es::C,k,h=>by
  have h0:=h 0 es rfl;rw [aml]at h0;have ih:=abZ C (k+1) λj fs hj=>by
   have:=h (j+1) fs yX0
   rwa [show k+(j+1)=k+1+j by omega]at this
  rw [aev,List.range'_succ,aes];show ((aj.scan (bt (k:Int)).1).1.map λf=>((k:Int),f))++rowsOf bt ((List.range' (k+1) C.length).map λi=>((i:Nat):Int))=_;rw [ih,h0.1,aj.L8 es h0.2]
  rfl
def jK (es:List aJ):Bool:=match es.getLast? with
 |some x=>x.tag==2
 |none=>false
theorem agS (es:List aJ) (a:Nat):zo (gy es a)=jK es:=by
 unfold zo jK;have h:(gy es a).getLast?.map (·.e)=es.getLast?:=by rw [<-apw,aj.BJ]
 cases hl:(gy es a).getLast? with
 |none=>rw [hl]at h;rw [<-h];rfl
 |some f=>rw [hl]at h;rw [<-h];rfl
theorem acK {ns:List Int} (hl:ns.length=C.length) (h:∀ j es,C[j]?=some es->bt (ns.getD j 0)=(mag++encs es,0)/\∀ x∈es,dV x):∀ i,i<=C.length ->
  ∃ n,split bt ns i=(n,0)/\n<=i/\(n≠0->∃ es,C[n-1]?=some es/\jK es=true)/\∀ j es,n<=j->j<i->C[j]?=some es->jK es=false
 |0,_=>⟨0,rfl,ab1 _,λh=>absurd rfl h,λj es h1 h2=>by omega⟩
 |i+1,hi=>by
  obtain ⟨es,he⟩:∃ es,C[i]?=some es:=⟨_,aaJ oQ⟩;obtain ⟨h1,h2⟩:=h i es he;have hu:split bt ns (i+1)=if jK es=true then (i+1,0) else split bt ns i:=by
   rw [split,h1,abL yF0,aj.L8 es h2];simp only [agS,true_and]
  rw [hu];cases hc:jK es with
  |true=>exact ⟨i+1,rfl,ab1 _,λ_=>⟨es,he,hc⟩,λj fs a b=>by omega⟩
  |false=>
   obtain ⟨n,a,b,c,d⟩:=acK hl h i oQ;refine ⟨n,a,by omega,c,λj fs p q r=>?_⟩;by_cases e:j=i
   ·subst e;rw [he]at r;cases r;exact hc
   ·exact d j fs p oQ r
theorem afI {ns:List Int} (h:∀ (j:Nat) (s:Int),ns[j]?=some s->∃ es,bt s=(mag++encs es,0)/\∀ x∈es,dV x):bad bt ns=none:=by
 induction ns with
 |nil=>rfl
 |cons s ns ih=>
  obtain ⟨es,h1,h2⟩:=h 0 s rfl;unfold bad;rw [h1,abL yF0,aj.L8 es h2];simp only;rw [abL yF0];exact ih λj t hj=>h (j+1) t yX0
def KC:List aJ->Bs->Option aJ
 |[],_=>none
 |x::l,k=>match KC l k with
  |some y=>some y
  |none=>if x.tag≠2/\x.key=k then some x else none
theorem aaG:∀ (l:List Row) (k:Bs),(newest l k).map (·.2.e)=KC (l.map (·.2.e)) k
 |[],_=>rfl
 |r::l,k=>by
  have ih:=aaG l k;unfold newest;rw [aes]
  conv=>rhs;unfold KC
  rw [<-ih];cases newest l k with
  |some x=>rfl
  |none=>
   simp only [ao1];unfold fF iJ;split <;> rfl
theorem PY:∀ (es:List aJ) (a:Nat){f:dK},f∈gy es a->∃ u v,es=u++f.e::v/\f.at_=a+(encs u).length/\f.size=(aj.encode f.e).1.length
 |[],_,f,h=>by cases h
 |x::es,a,f,h=>by
  unfold gy at h;rcases ad9.1 h with rfl|h
  ·exact ⟨[],es,rfl,rfl,rfl⟩
  ·obtain ⟨u,v,h1,h2,h3⟩:=PY es _ h;refine ⟨x::u,v,by rw [h1];rfl,?_,h3⟩;have e:encs (x::u)=(aj.encode x).1++encs u:=rfl;rw [h2,e,aa7];omega
end
end Go.Rep
namespace Go.Seg
open Go.ak
open Go.aj (encs dV gy)
section
variable {n:Nat}{M:ak}{L:Log}{C:List (List aj.aJ)}
end
open Go.ak
open Go.aj (encs dV)
section
variable {K:Nat}{M M':ak}{L:Log}{s t:ByteArray}{i:Nat}
def nf (L:Log):List Int:=(L.l.map (·.1)).take (L.l.length-L.fresh.toNat)
variable {sure opn:List (aZ×aj.aJ)}
end
open Go.ak
section
variable {K K':Nat}{M M':ak}{L:Log}{s t:ByteArray}{i:Nat}{sure opn:List (aZ×aj.aJ)}
theorem Wp:∀ (x y u v:Bs),x.length=y.length->x<y->x++u<y++v
 |[],[],_,_,_,h=>absurd h (List.not_lt_nil [])
 |[],_::_,_,_,h,_=>by simp at h
 |_::_,[],_,_,h,_=>by simp at h
 |a::x,b::y,u,v,hl,h=>by
  rw [aiQ,aiQ,List.cons_lt_cons_iff];rcases List.cons_lt_cons_iff.1 h with h1|⟨e,h1⟩
  ·exact .inl h1
  ·exact .inr ⟨e,Wp x y u v (by simpa using hl) h1⟩
theorem OI:∀ (x u v:Bs),u<v->x++u<x++v
 |[],_,_,h=>h
 |a::x,u,v,h=>by
  rw [aiQ,aiQ,List.cons_lt_cons_iff];exact .inr ⟨rfl,OI x u v h⟩
theorem XA:∀ (k a b:Nat),a<b->b<10^k->gY a k<gY b k
 |0,a,b,h,hb=>by simp at hb;omega
 |k+1,a,b,h,hb=>by
  show gY (a/10) k++[UInt8.ofNat (48+a%10)]<gY (b/10) k++[UInt8.ofNat (48+b%10)];have hb':b/10<10^k:=by rw [Nat.div_lt_iff_lt_mul oQ];rw [apt]at hb;exact hb
  rcases aiN (a/10) (b/10) with q|q
  ·exact Wp _ _ _ _ (by rw [sU,sU]) (XA k _ _ q hb')
  ·have e:a/10=b/10:=by omega
   rw [e];refine OI _ _ _ ?_;rw [List.cons_lt_cons_iff];left;rw [UInt8.lt_iff_toNat_lt,aoB,aoB];omega
theorem ajD {a b:Int} (h1:0<=a) (h2:a<b) (h3:b<1048576):lt (name a) (name b)=true:=by
 unfold name;rw [abL oQ,abL oQ];unfold lt;rw [ad5];show lead++gY a.toNat 8<lead++gY b.toNat 8;exact OI _ _ _ (XA 8 _ _ oQ oQ)
theorem CQ {s:ByteArray} (h:(number s).2=true):0<=(number s).1/\(number s).1<1048576/\name (number s).1=s:=by
 unfold number at h ⊢;dsimp only at h ⊢;split at h
 ·rename_i hc;rw [adU hc];obtain ⟨c1,c2,c3,c4⟩:=hc;refine ⟨by simp only;omega,by simp only;omega,?_⟩;simp only;unfold name;rw [abL oQ];have hl:(s.data.toList.drop 4).length=8:=by
   have:s.data.toList.length=12:=by first|exact c1|(rw [ad6];exact c1)
   rw [adX,this]
  have hd:=agB (s.data.toList.drop 4) c3;rw [hl]at hd;have e:lead++gY (Int.toNat ((val (s.data.toList.drop 4):Nat):Int)) 8=s.data.toList:=by
   rw [apH,hd,<-c2,aeX]
  rw [e]
 ·cases h
theorem BK {l:List ByteArray}{x:Int×Int} (h:x∈found M l):∃ t∈l,(number t).2=true/\x=((number t).1,(M.size t).1):=by
 unfold found at h;obtain ⟨t,ht,he⟩:=List.mem_filterMap.1 h;split at he
 ·rename_i hn;exact ⟨t,ht,hn,(aiJ he).symm⟩
 ·cases he
theorem Z4 (h:t∈M.list):∃ i,bH M.now t=some i:=by
 unfold ak.list at h;split at h
 ·cases h
 ·obtain ⟨p,hp,rfl⟩:=adu.1 h;cases hg:bH M.now p.1 with
  |none=>exact absurd rfl (KT hg p hp)
  |some i=>exact ⟨i,rfl⟩
theorem P6:∀ (l:List ByteArray),l.Pairwise (λa b=>lt a b=true)->((found M l).map (·.1)).Pairwise (· < ·)
 |[],_=>List.Pairwise.nil
 |t::l,h=>by
  obtain ⟨h1,h2⟩:=aeZ.1 h;have ih:=P6 l h2;by_cases hn:(number t).2=true
  ·have e:found M (t::l)=((number t).1,(M.size t).1)::found M l:=by unfold found;rw [List.filterMap_cons];simp [hn]
   rw [e,aes,aeZ];refine ⟨λx hx=>?_,ih⟩;obtain ⟨y,hy,rfl⟩:=adu.1 hx;obtain ⟨u,hu,hun,rfl⟩:=BK hy;have hlt:=h1 u hu;obtain ⟨a1,a2,a3⟩:=CQ hn;obtain ⟨b1,b2,b3⟩:=CQ hun;rcases Int.lt_or_le (number t).1 (number u).1 with q|q
   ·exact q
   ·exfalso;rcases Int.lt_or_eq_of_le q with q|q
    ·have h3:=ajD b1 q a2;rw [a3,b3]at h3;have:=lt_trans hlt h3;rw [lt_irrefl]at this;cases this
    ·rw [<-a3,<-q,b3,lt_irrefl]at hlt;cases hlt
  ·have e:found M (t::l)=found M l:=by unfold found;rw [List.filterMap_cons];simp [hn]
   rw [e];exact ih
theorem xZ (ok:M.Ok K) (limit:Int) (h1:128<=limit) (h2:limit<=1048576):(fresh M limit).Ok:=by
 refine ⟨⟨h1,h2⟩,?_,λx hx=>?_,λx hx=>?_,⟨ape _,by simp [fresh]⟩,λhh=>by cases hh⟩
 ·refine P6 M.list ?_;unfold ak.list;split
  ·exact List.Pairwise.nil
  ·rw [ahB];exact ok.fU.oM
 ·obtain ⟨t,_,hn,rfl⟩:=BK hx;have:=CQ hn;exact ⟨this.1,this.2.1⟩
 ·obtain ⟨t,_,hn,rfl⟩:=BK hx;unfold ak.size;split
  ·simp
  split
  ·simp
  ·have:=(ok.file ‹Nat›).uT;simp only;omega
end
open Go.ak
open Go.aj (encs dV)
section
variable {K K':Nat}{M M':ak}{L:Log}{s t:ByteArray}{i:Nat}{sure opn:List (aZ×aj.aJ)}
theorem Yp (M:ak) (limit:Int):Has (fresh M limit) M:=λx hx=>by
 obtain ⟨t,ht,hn,rfl⟩:=BK hx;simp only;rw [(CQ hn).2.2];exact Z4 ht
theorem ahl {n lim:Int} (hoff:M.off=false) (h1:0<=n) (h2:n<1048576) (hi:bH M.now (name n)=some i):n∈nf (fresh M lim):=by
 have hl:name n∈M.list:=by
  unfold ak.list;rw [hoff];exact adu.2 ⟨_,ji hi,rfl⟩
 unfold nf fresh;simp only;rw [adZ (by rw [abl];simp)];refine adu.2 ⟨(n,(M.size (name n)).1),?_,rfl⟩;unfold found;refine List.mem_filterMap.2 ⟨name n,hl,?_⟩;rw [Ib n h1 h2]
 rfl
theorem at_mem (hL:L.Ok){n:Int} (h:n∈L.l.map (·.1)):∃ k,L.at n=some k:=by
 obtain ⟨s,hs,rfl⟩:=adu.1 h;cases hat:L.at s.1 with
 |some k=>exact ⟨k,rfl⟩
 |none=>
  exfalso;unfold Log.at at hat;rw [List.findIdx?_eq_none_iff]at hat;have:=hat s hs;simp at this
end
end Go.Seg
namespace Go.aA
open Go.ak
def name (lead:ByteArray) (n:Int):ByteArray:=if Seg.name n=ByteArray.empty then ByteArray.empty else lead++(Seg.name n).extract 4 12
def idx:ByteArray:=⟨#[105,100,120,46]⟩
def use:ByteArray:=⟨#[117,115,101,46]⟩
theorem L9 (n:Int):Seg.name n=ByteArray.empty\/(Seg.name n).size=12/\(Seg.name n).data.toList.take 4=Seg.lead:=by
 unfold Seg.name;split
 ·exact .inl rfl
 ·right;refine ⟨?_,rfl⟩;show (Seg.lead++Seg.gY n.toNat 8).toArray.size=12;rw [abA,aa7,Seg.sU];rfl
end Go.aA
namespace Go.Proofs.Y
open Go.ak
theorem ahI (s:ByteArray) (h1:s.size=12) (h2:s.data.toList.take 4=Seg.lead) (w:World) :
  Calls prog 241 #[.string s,.string ⟨#[115,101,103,46]⟩] w (aN λv w'=>v=.bool true/\w=w'):=by
 have BM:((s.extract 0 4).toList==[115,101,103,46])=true:=by rw [O1 s,h2];rfl
 have hle:(4:Int)<=(s.size:Int):=oQ;clear h2;go_enter func241,ntmps241;go_wp2;go_ret;exact ⟨_,rfl,rfl,rfl⟩
theorem anu (s:ByteArray) (h1:s.size=12) (h2:s.data.toList.take 4=Seg.lead) (w:World) :
  Calls prog 242 #[.string s,.string ⟨#[115,101,103,46]⟩] w (aN λv w'=>v=.string (s.extract 4 12)/\w=w'):=by
 have hp:=ahI s h1 h2 w;go_enter func242,ntmps242;go_wp2_with fail;refine hp.mono ?_;rintro e w1 ⟨v,rfl,rfl,rfl⟩;clear hp;go_wp2;go_ret;exact ⟨_,rfl,rfl,rfl⟩
theorem trim_c (s:ByteArray) (h1:s.size=12) (h2:s.data.toList.take 4=Seg.lead) (w:World) :
  Calls prog 206 #[.string s,.string ⟨#[115,101,103,46]⟩] w (aN λv w'=>v=.string (s.extract 4 12)/\w=w'):=by
 have hp:=anu s h1 h2 w;go_enter func206,ntmps206;go_wp2_with fail;refine hp.mono ?_;rintro e w1 ⟨v,rfl,rfl,rfl⟩;clear hp;go_wp2;go_ret;exact ⟨_,rfl,rfl,rfl⟩
theorem Zb (lead:ByteArray) (hl:lead.size=4) (n:Int) (h:Sat w0 w F) :
  Calls prog 161 #[.string lead,.int .i64 n] w (aN λv w'=>v=.string (aA.name lead n)/\Sat w0 w' F):=by
 have hn:=EI n h;have Hf:=uQ (show aA.name lead n=if Seg.name n=ByteArray.empty then ByteArray.empty else lead++(Seg.name n).extract 4 12 from rfl);have Hc:=uQ (aA.L9 n);generalize Seg.name n=s at *
 go_enter func161,ntmps161;go_wp2_with fail;refine hn.mono ?_;rintro e w1 ⟨v,rfl,rfl,hS⟩;clear hn;rcases Hc.o with rfl|⟨h1,h2⟩
 ·clear hl h;go_wp2;go_ret;exact ⟨_,rfl,by rw [Hf.o];rfl,hS⟩
 ·have hne:s≠ByteArray.empty:=λe=>by rw [e]at h1;cases h1
  have hne2:(s.toList==[])=false:=by
   rw [ad3,akk];intro e;have:=aeO List.length e;rw [ad6]at this;have h1':s.data.size=12:=h1;rw [h1']at this;cases this
  have hsz:¬ 9223372036854775807<lead.size+(s.extract 4 12).size:=by rw [hl,ByteArray.size_extract];omega
  have xK:=uQ hne;have ht:=trim_c s h1 h2;clear hne h1 h2 hl h;go_wp2_with fail;refine (ht _).mono ?_;rintro e w2 ⟨v,rfl,rfl,rfl⟩;clear ht;go_wp2;go_ret;exact ⟨_,rfl,by rw [Hf.o,abL xK.o];rfl,hS⟩
theorem Kt (n:Int) (h:Sat w0 w F):Calls prog 113 #[.int .i64 n] w (aN λv w'=>v=.string (aA.name aA.idx n)/\Sat w0 w' F):=by
 have hn:=Zb aA.idx rfl n h;go_enter func113,ntmps113;go_wp2_with fail;refine hn.mono ?_;rintro e w1 ⟨v,rfl,rfl,hS⟩;clear hn;go_wp2;go_ret;exact ⟨_,rfl,rfl,hS⟩
theorem MO (n:Int) (h:Sat w0 w F):Calls prog 118 #[.int .i64 n] w (aN λv w'=>v=.string (aA.name aA.use n)/\Sat w0 w' F):=by
 have hn:=Zb aA.use rfl n h;go_enter func118,ntmps118;go_wp2_with fail;refine hn.mono ?_;rintro e w1 ⟨v,rfl,rfl,hS⟩;clear hn;go_wp2;go_ret;exact ⟨_,rfl,rfl,hS⟩
def hM:ak:=ak.new 100
end Go.Proofs.Y
namespace Go.aA
open Go.ak
def number (s:ByteArray):Int×Bool:=
 if s.data.toList.take 4=[105,100,120,46]\/s.data.toList.take 4=[117,115,101,46] then Seg.number ⟨(Seg.lead++s.data.toList.drop 4).toArray⟩ else (0,false)
def wR:List ByteArray->Int->Int
 |[],m=>m
 |f::l,m=>wR l (if (number f).2=true then max m (number f).1 else m)
def newest (M:ak):Int:=wR M.list (-1)
def tmp:ByteArray:=⟨#[116,109,112]⟩
def there (M:ak) (s:ByteArray):Bool:=decide ((M.size s).2=0)
def oK (M:ak):ak×Int:=if there M tmp=true then M.remove tmp else (M,0)
def fill (M:ak) (s:ByteArray) (b:Bs):ak×Int:=
 if (M.append tmp b).2=0 then
  (if ((M.append tmp b).1.sync tmp).2=0 then ((M.append tmp b).1.sync tmp).1.rename tmp s else (M.append tmp b).1.sync tmp)
 else if (M.append tmp b).2=11 then
  (if ((M.append tmp b).1.remove tmp).2=0 then (((M.append tmp b).1.remove tmp).1,11) else (M.append tmp b).1.remove tmp)
 else M.append tmp b
def write (M:ak) (s:ByteArray) (b:Bs):ak×Int:=
 if (oK M).2=0 then (if ((oK M).1.create tmp).2=0 then fill ((oK M).1.create tmp).1 s b else (oK M).1.create tmp) else oK M
def sweep (p:ByteArray->Bool):List ByteArray->ak->ak×Int
 |[],M=>(M,0)
 |f::l,M=>if p f=true then (if (M.remove f).2=0 then sweep p l (M.remove f).1 else M.remove f) else sweep p l M
def other (n:Int) (s:ByteArray):Bool:=(number s).2 && (number s).1 != n
def TV (M:ak) (n:Int):ak×Int:=if M.dH.2=0 then sweep (other n) M.dH.1.list M.dH.1 else M.dH
def TU (M:ak) (n:Int) (bu:Bs):ak×Int:=if (write M (name use n) bu).2=0 then TV (write M (name use n) bu).1 n else write M (name use n) bu
def save (M:ak) (n:Int) (bi bu:Bs):ak×Int:=if (write M (name idx n) bi).2=0 then TU (write M (name idx n) bi).1 n bu else write M (name idx n) bi
abbrev Kept:Type:=List (ByteArray×Nat×aX)
section
variable {T:Kept}{s1 s2 s:ByteArray}{b1 b2 b:Bs}{K j:Nat}{M M':ak}{l:Names}{fs fs':Nat->aX}
theorem Un:tmp≠ByteArray.empty:=by decide
end
section
variable {s:ByteArray}{b b1 b2:Bs}{K r:Nat}{M:ak}
theorem _root_.Go.Seg.Calm.rename (h:Seg.Calm K r M) (s t:ByteArray):Seg.Calm (K+1) r (M.rename s t).1:=by
 have f:=(Fits.does h.ok h.dst h.used ⟨3,s,t,0,0,[],[]⟩ (show (3:Int)≠8 by decide) (show (3:Int)≠9 by decide)).1;exact ⟨h.ok.rename s t,h.quiet.rename s t,f.dst,f.used,f.room.trans h.room⟩
theorem ahy:good tmp=true:=by decide +kernel
theorem Uc (q:Quiet M) (h:bH M.now s=none):M.size s=(0,9):=by unfold ak.size;rw [q.off,h];rfl
theorem Ud (q:Quiet M){i:Nat} (h:bH M.now s=some i):M.size s=((((M.file i).now.length:Nat):Int),0):=by unfold ak.size;rw [q.off,h];rfl
theorem Um (q:Quiet M) (h:bH M.now s=none):there M s=false:=by unfold there;rw [Uc q h];rfl
theorem acW (q:Quiet M){i:Nat} (h:bH M.now s=some i):there M s=true:=by unfold there;rw [Ud q h];rfl
theorem aaM (l:Names) (s:ByteArray) (i:Nat):(jR l s i).length<=l.length+1:=by rw [RX];have:=wO l s;omega
theorem name_eq (ld:ByteArray) (n:Int) (h1:0<=n) (h2:n<1048576):(name ld n).data.toList=ld.data.toList++Seg.gY n.toNat 8:=by
 have hs:=Seg.YB n h1 h2;have hne:=tu hs;unfold name;rw [abL hne];have e:Seg.name n=⟨(Seg.lead++Seg.gY n.toNat 8).toArray⟩:=by unfold Seg.name;rw [abL oQ]
 rw [e];rw [ByteArray.data_append,apy,ByteArray.data_extract,Array.toList_extract];show _++(List.extract (Seg.lead++Seg.gY n.toNat 8) 4 12)=_
 congr 1
theorem agA (n k:Nat):(Seg.gY n k).all l9=true:=by
 rw [agt];intro c hc;have:=(agt.1 (Seg.Pq k n)) c hc;unfold Seg.nR at this;rw [aeW,ad5,ad5]at this;unfold l9;have e1:(48:UInt8)<=c:=UInt8.le_iff_toNat_le.2 this.1;have e2:c<=57:=UInt8.le_iff_toNat_le.2 this.2;simp [e1,e2]
theorem G9 {ld:ByteArray} (hl:ld.data.toList.length=4) (hg:ld.data.toList.all l9=true) (n:Int) (h1:0<=n) (h2:n<1048576):good (name ld n)=true:=by
 have e:=name_eq ld n h1 h2;have hs:(name ld n).size=12:=by
  show (name ld n).data.size=12;rw [<-ad6,e,aa7,hl,Seg.sU]
 unfold good;rw [hs,e,ajk,hg,agA]
 rfl
theorem wV {ld:ByteArray} (hl:ld.data.toList=[105,100,120,46]\/ld.data.toList=[117,115,101,46]) (n:Int) (h1:0<=n) (h2:n<1048576):number (name ld n)=(n,true):=by
 have e:=name_eq ld n h1 h2;have hs:=Seg.Ib n h1 h2;have e2:Seg.name n=⟨(Seg.lead++Seg.gY n.toNat 8).toArray⟩:=by unfold Seg.name;rw [abL oQ]
 rw [e2]at hs;unfold number;rw [e];rcases hl with hl|hl
 ·rw [hl,adU (.inl rfl)];exact hs
 ·rw [hl,adU (.inr rfl)];exact hs
theorem Ic (n:Int):number (Seg.name n)=(0,false):=by
 unfold number;rcases L9 n with h|⟨_,h⟩
 ·rw [h,abL aG]
 ·rw [h,abL aG]
theorem aaS:number tmp=(0,false):=by
 unfold number;rw [abL aG]
theorem aki {n:Int}{s:ByteArray} (h:(number s).2=false):other n s=false:=by unfold other;rw [h];rfl
theorem aa2 {n:Int}{s:ByteArray} (h:number s=(n,true)):other n s=false:=by unfold other;rw [h];simp
theorem Cj:idx.data.toList=[105,100,120,46]:=rfl
theorem IL:use.data.toList=[117,115,101,46]:=rfl
theorem Eo (n:Int) (h1:0<=n) (h2:n<1048576):name idx n≠name use n:=λe=>by
 have a:=name_eq idx n h1 h2;rw [e,name_eq use n h1 h2,Cj,IL]at a;simp at a
theorem amw (m n:Int) (h1:0<=n) (h2:n<1048576):Seg.name m≠name idx n:=λe=>by
 have a:=wV (.inl Cj) n h1 h2;rw [<-e,Ic]at a;simp at a
theorem amx (m n:Int) (h1:0<=n) (h2:n<1048576):Seg.name m≠name use n:=λe=>by
 have a:=wV (.inr IL) n h1 h2;rw [<-e,Ic]at a;simp at a
theorem Zx (n:Int) (h1:0<=n) (h2:n<1048576):name idx n≠tmp:=λe=>by
 have a:=wV (.inl Cj) n h1 h2;rw [e,aaS]at a;simp at a
theorem ado (n:Int) (h1:0<=n) (h2:n<1048576):name use n≠tmp:=λe=>by
 have a:=wV (.inr IL) n h1 h2;rw [e,aaS]at a;simp at a
end
end Go.aA
namespace Go.Seg
open Go.ak
open Go.aj (encs dV gy)
structure HG (K r E B n:Nat) (L:Log) (M:ak) (C:List (List aj.aJ)):Prop where
 keeps:Keeps K r L M
 len:L.l.length=C.length
 at_:∀ (k:Nat) (es:List aj.aJ),C[k]?=some es->L.l[k]?=some ((k:Int),8+((encs es).length:Int))
 file:∀ (k:Nat) (es:List aj.aJ),C[k]?=some es->M.all (name k)=(mag++encs es,0)
 good:∀ es∈C,(∀ x∈es,dV x)/\es≠[]
 count:C.length<=n
 used:M.used<=n*400+B
 names:M.now.length<=n+E
 cover:∀ (k i:Nat),k<1048576->bH M.now (name (k:Int))=some i->k<C.length
section
variable {K r E B n:Nat}{L:Log}{M:ak}{C:List (List aj.aJ)}
end
structure HD (K r E B n:Nat) (L:Log) (M:ak) (D:List (Nat×List aj.aJ)):Prop where
 keeps:Keeps K r L M
 l:L.l=D.map λd=>((d.1:Int),8+((encs d.2).length:Int))
 rise:D.Pairwise λa b=>a.1<b.1
 lim:∀ d∈D,d.1<n
 file:∀ d∈D,M.all (name d.1)=(mag++encs d.2,0)
 good:∀ d∈D,(∀ x∈d.2,dV x)/\(n<=500->d.2≠[])
 used:M.used<=n*400+B
 names:M.now.length<=n+E
 cover:∀ (k i:Nat),k<1048576->bH M.now (name (k:Int))=some i->∃ d∈D,d.1=k
def iH (D:List (Nat×List aj.aJ)):List Rep.Row:=D.flatMap λd=>(gy d.2 8).map λf=>((d.1:Int),f)
section
variable {K r E B n:Nat}{L:Log}{M:ak}{C:List (List aj.aJ)}{D:List (Nat×List aj.aJ)}{d:Nat×List aj.aJ}
theorem HD.mono {K' E' B' n':Nat} (h:HD K r E B n L M D) (h1:K<=K') (h2:E<=E') (h3:B<=B') (h4:n<=n'):HD K' r E' B' n' L M D:=
 ⟨h.keeps.mono h1,h.l,h.rise,λd hd=>Nat.lt_of_lt_of_le (h.lim d hd) h4,h.file,λd hd=>⟨(h.good d hd).1,λq=>(h.good d hd).2 (adT h4 q)⟩,adT h.used (Nat.add_le_add (aiI 400 h4) h3),adT h.names oQ,h.cover⟩
theorem HD.aH (h:HD K r E B n L M D):L.aH=D.map λd=>(d.1:Int):=by
 unfold Log.aH;rw [h.l,ahU]
 rfl
theorem HD.OQ (h:HD K r E B n L M D) (hd:d∈D):∃ i,L.at (d.1:Int)=some i:=by
 cases hat:L.at (d.1:Int) with
 |some i=>exact ⟨i,rfl⟩
 |none=>
  exfalso;unfold Log.at at hat;rw [List.findIdx?_eq_none_iff]at hat;have:=hat ((d.1:Int),8+((encs d.2).length:Int)) (by rw [h.l];exact adu.2 ⟨d,hd,rfl⟩);simp at this
theorem HD.bytes (h:HD K r E B n L M D) (hd:d∈D):L.bytes M (d.1:Int)=(mag++encs d.2,0):=by
 obtain ⟨i,hi⟩:=h.OQ hd;unfold Log.bytes;rw [hi];exact h.file d hd
theorem HD.alike {L':Log}{M':ak} (h:HD K r E B n L M D){K':Nat} (hk:Keeps K' r L' M') (hl:L'.l=L.l) (ha:Alike M M'):HD K' r E B n L' M' D:=
 ⟨hk,by rw [hl];exact h.l,h.rise,h.lim,λd hd=>by rw [ha.all];exact h.file d hd,h.good,by rw [ha.used];exact h.used,by rw [ha.now];exact h.names,by rw [ha.now];exact h.cover⟩
def RD (D:List (Nat×List aj.aJ)):Nat:=match D.getLast? with
 |none=>0
 |some d=>d.1+1
theorem ajR (hr:D.Pairwise λa b=>a.1<b.1) (hd:d∈D):d.1<RD D:=by
 unfold RD;rcases List.eq_nil_or_concat D with rfl|⟨D0,e,rfl⟩
 ·cases hd
 ·rw [List.concat_eq_append,List.getLast?_append]at *
  rw [anr]at hr;simp only [List.getLast?_singleton,Option.some_or];rcases aeQ.1 hd with hd|hd
  ·have:=hr.2.2 d hd e yF0;omega
  ·rw [aeG.1 hd];omega
end
end Go.Seg
namespace Go.Tab
open Go.aj (Bs num)
section
variable {V:Type}{s:List (Slot V)}{x z:Slot V}{k:Bs}{v:V}{d:Nat}
def del (m:Bs->Option V) (k:Bs):Bs->Option V:=λl=>if l=k then none else m l
end
end Go.Tab
namespace Go.Seg
open Go.ak
open Go.aj (encs dV gy aJ)
def toE (d:aJ):aJ:=if d.tag=0 then ⟨0,d.key,d.data⟩ else if d.tag=1 then ⟨1,d.key,[]⟩ else Xh
def ZG (d:aJ):Prop:=d.tag=0\/d.tag=1
instance (d:aJ):Decidable (ZG d):=by unfold ZG;infer_instance
structure Pl (n:Nat) (ds:List aJ) (L:Log) (M:ak) (C:List (List aJ)):Prop where
 holds:Holds n L M C
 tail:Tail L.on C
 flat:C.flatten=ds.map toE
 small:∀ x∈C.flatten,x.data.length<=300
section
variable {n:Nat}{ds:List aJ}{L:Log}{M:ak}{C C0:List (List aJ)}{d:aJ}
end
end Go.Seg
namespace Go.Rep
open Go.aj (Bs dK aJ gy encs dV)
open Go.Seg (aZ mag)
open Go.Tab
def uZ (l:List Row) (s:Int):Int:=(l.map λr=>if r.1=s then (r.2.size:Int) else 0).sum
theorem TY (a b:List Row) (s:Int):uZ (a++b) s=uZ a s+uZ b s:=by unfold uZ;rw [aef,List.sum_append]
theorem Z' {l:List Row} (s:Int):∀ i,i<=l.length->0<=live l s i/\live l s i<=uZ (l.take i) s
 |0,_=>⟨ape 0,by simp [live,uZ]⟩
 |i+1,hi=>by
  have ih:=Z' (l:=l) s i oQ;obtain ⟨r,hr⟩:∃ r,l[i]?=some r:=⟨_,aaJ oQ⟩;rw [aeN,hr,ahW,TY];have e:uZ [r] s=if r.1=s then (r.2.size:Int) else 0:=by unfold uZ;simp
  rw [e];unfold live;rw [hr];simp only;by_cases h:r.1=s
  ·rw [adU h];split <;> omega
  ·rw [abL h,abL (λhh=>h hh.2)];omega
theorem Yl:∀ (es:List aJ) (a:Nat),((gy es a).map λf=>(f.size:Int)).sum=(encs es).length
 |[],_=>rfl
 |x::es,a=>by
  have e:encs (x::es)=(aj.encode x).1++encs es:=rfl;unfold gy;rw [aes,apf,Yl es,e,aa7];simp
theorem acE (l:List dK) (k s:Int):uZ (l.map λf=>(k,f)) s=if k=s then (l.map λf=>(f.size:Int)).sum else 0:=by
 unfold uZ;rw [ahU];by_cases h:k=s
 ·rw [adU h]
  congr 1
  refine aj6 λf _=>?_;simp [h]
 ·rw [abL h]
  induction l with
  |nil=>rfl
  |cons f l ih=>rw [aes,apf,ih];simp [h]
end Go.Rep
namespace Go.Seg
open Go.ak
structure Fit (K:Nat) (D:ak):Prop where
 ok:D.Ok K
 small:D.Small
 files:D.files.length<=500+K
section
variable {φ:Nat->Nat}{V:Nat->Prop}{M D:ak}{K:Nat}{L:Log}
theorem Fit.mono {K':Nat} (h:Fit K D) (hk:K<=K'):Fit K' D:=⟨h.ok.mono hk,h.small,by have:=h.files;omega⟩
theorem Fit.new (K r:Nat) (h:r<=16777216):Fit K (new r):=⟨ak.Ok.new K r h,(λf hf=>by cases hf),ad4 _⟩
theorem Fit.told (h:Fit K D) (x:ak.Cal) (hn:x.n<=9223372036854775807):Fit (K+1) (D.told x).1:=⟨h.ok.told x hn,h.small.told h.ok x,ant h.ok h.files x⟩
theorem Fit.create (h:Fit K D) (s:ByteArray):Fit (K+1) (D.create s).1:=h.told ⟨0,s,s,0,0,[],[]⟩ (show (0:Int)<=9223372036854775807 by decide)
theorem Fit.append (h:Fit K D) (s:ByteArray) (b:Bs):Fit (K+1) (D.append s b).1:=h.told ⟨1,s,s,0,0,b,[]⟩ (show (0:Int)<=9223372036854775807 by decide)
theorem Fit.now (h:Fit K D):D.now.length<=500:=h.ok.fU.len
end
end Go.Seg
namespace Go.aj
def bst (x:Nat):Nat:=(x/2) ^^^ (if x%2=1 then 3988292384 else 0)
theorem Nq (a b:Nat):(a ^^^ b)/2=a/2 ^^^ b/2:=by
 have h:=Nat.shiftRight_xor_distrib (a:=a) (b:=b) (i:=1);simpa [Nat.shiftRight_eq_div_pow] using h
theorem aog (a b:Nat):(a ^^^ b)%2=(a%2+b%2)%2:=by
 have h:=Nat.testBit_xor a b 0;rw [Nat.testBit_zero,Nat.testBit_zero,Nat.testBit_zero]at h;rcases Nat.mod_two_eq_zero_or_one a with h1|h1 <;> rcases Nat.mod_two_eq_zero_or_one b with h2|h2 <;> rcases Nat.mod_two_eq_zero_or_one (a ^^^ b) with h3|h3 <;> simp [h1,h2,h3]at h ⊢
theorem F5 (u z:Nat):bst (u ^^^ z)=(u/2) ^^^ ((z/2) ^^^ (if (u%2+z%2)%2=1 then 3988292384 else 0)):=by
 unfold bst;rw [Nq,aog,Nat.xor_assoc]
theorem WS (y:Nat):bst (bst (bst (bst y)))=tq y:=by
 have h0:y=y ^^^ 0:=(Nat.xor_zero y).symm
 conv=>lhs;rw [h0]
 rw [F5,F5,F5,F5];rw [show y/2/2/2/2=y/16 by omega];unfold tq
 congr 1
 have e0:y%2=(y%16)%2:=oQ;have e1:y/2%2=(y%16)/2%2:=oQ;have e2:y/2/2%2=(y%16)/2/2%2:=oQ;have e3:y/2/2/2%2=(y%16)/2/2/2%2:=oQ;rw [e0,e1,e2,e3];have hr:y%16<16:=oQ;clear e0 e1 e2 e3 h0;generalize y%16=r at *
 revert r;decide +kernel
def qK (x c k:Nat):Nat:=if x%2≠c/2^k%2 then (x/2) ^^^ 3988292384 else x/2
theorem zf (x c k:Nat):qK x c k ^^^ (c/2^(k+1))=bst (x ^^^ (c/2^k)):=by
 rw [F5];unfold qK;have e:c/2^(k+1)=c/2^k/2:=by rw [apt,Nat.div_div_eq_div_mul]
 rw [e];have h1:x%2<2:=anD _ aG;have h2:c/2^k%2<2:=anD _ aG;by_cases h:x%2=c/2^k%2
 ·rw [abL oQ,abL oQ,Nat.xor_zero]
 ·rw [adU h,adU oQ,Nat.xor_assoc,Nat.xor_comm 3988292384]
def wC (x c:Nat):Nat->Nat
 |0=>x
 |k+1=>qK (wC x c k) c k
theorem afR (x:Nat) (c:UInt8):wC x c.toNat 8=mP x c:=by
 have hc:=c.toNat_lt;have h0:wC x c.toNat 8=wC x c.toNat 8 ^^^ (c.toNat/2^8):=by rw [show c.toNat/2^8=0 by omega,Nat.xor_zero]
 rw [h0];show qK _ _ 7 ^^^ _=_;rw [zf _ _ 7];show bst (qK _ _ 6 ^^^ _)=_;rw [zf _ _ 6];show bst (bst (qK _ _ 5 ^^^ _))=_;rw [zf _ _ 5];show bst (bst (bst (qK _ _ 4 ^^^ _)))=_;rw [zf _ _ 4];show bst (bst (bst (bst (qK _ _ 3 ^^^ _))))=_;rw [WS,zf _ _ 3];show tq (bst (qK _ _ 2 ^^^ _))=_;rw [zf _ _ 2];show tq (bst (bst (qK _ _ 1 ^^^ _)))=_;rw [zf _ _ 1];show tq (bst (bst (bst (qK _ _ 0 ^^^ _))))=_;rw [zf _ _ 0,WS];show tq (tq (x ^^^ c.toNat/2^0))=_;rw [show c.toNat/2^0=c.toNat by rw [Nat.pow_zero,Nat.div_one]]
 rfl
theorem afQ {x:Nat} (h:x<4294967296) (c k:Nat):qK x c k<4294967296:=by
 unfold qK;split
 ·exact Ai oQ aG
 ·omega
theorem WM {x:Nat} (h:x<4294967296) (c:Nat):∀ k,wC x c k<4294967296
 |0=>h
 |k+1=>afQ (WM h c k) c k
theorem ai8 (x:Nat):∀ n,le x (n+1)=le x n++[UInt8.ofNat (x/256^n%256)]:=by
 intro n
 induction n generalizing x with
 |zero=>simp [le]
 |succ n ih=>
  show UInt8.ofNat (x%256)::le (x/256) (n+1)=UInt8.ofNat (x%256)::le (x/256) n++_;rw [ih,Nat.div_div_eq_div_mul,aiS 256,<-apt];rfl
end Go.aj
namespace Go.Proofs.Y
open Go.ak
theorem akT (l:Bs) (hr:aW 1 bv (aB l) w) (hl:l.length<=1099511627776) :
  Calls prog 180 #[.int .u32 0,bv] w (aN λv w'=>v=.int .u32 (aj.crc l:Nat)/\w=w'):=by
 obtain ⟨a,n,c,rfl,hn,_⟩:=id hr;rw [aP,aeo]at hn;subst hn;have hx0:bits .xor .u32 0 4294967295=4294967295:=by decide +kernel
 have Hl:=uQ hl;clear hl;go_enter func180,ntmps180;go_wp2_with fail;clear hx0
 go_loopg [5,6] l.length (λg xv iq wr=>∃ i:Nat,g=l.length-i/\i<=l.length/\iq=.int .i64 i/\xv=.int .u32 ((l.take i).foldl aj.mP 4294967295:Nat)/\wr=w)
 case atStart=>exact ⟨0,rfl,ad4 _,rfl,rfl,rfl⟩
 case round=>
  obtain ⟨i,rfl,hi,rfl,rfl,rfl⟩:=hrel;have uN:(l.take i).foldl aj.mP 4294967295<4294967296:=aj.PZ _ _ aG;by_cases hi':i<l.length
  ·have hb:(aB l)[i]?=some (.int .u8 (l[i]'hi').toNat):=by unfold aB;simp [hi']
   obtain ⟨bk,off,rfl,c1⟩:=CV hr hb;have hnext:(l.take (i+1)).foldl aj.mP 4294967295=aj.wC ((l.take i).foldl aj.mP 4294967295) (l[i]'hi').toNat 8:=by
    rw [afB hi',apd,aj.afR];rfl
   have hic:(i:Int)<(l.length:Int):=oQ;have hwi:IntKind.i64.wrap ((i:Int)+1)=(i:Int)+1:=acO _ (by have h1:=Hl.o;omega);have hcb:=(l[i]'hi').toNat_lt;have sJ:=uQ hnext;have Vp:=uQ hi';clear hb hnext hr;generalize (l[i]'hi').toNat=cb at *
   generalize (l.take i).foldl aj.mP 4294967295=x at *
   have Hx:=uQ uN;have xG:=uQ hcb;clear uN hcb hi';go_wp2_with fail
   go_loopg [5,7] 8 (λg xv kq wq=>∃ k:Nat,g=8-k/\k<=8/\kq=.int .u64 k/\xv=.int .u32 (aj.wC x cb k:Nat)/\wq=wr)
   case atStart=>exact ⟨0,rfl,ad4 _,rfl,rfl,rfl⟩
   case round=>
    obtain ⟨k,rfl,hk,rfl,rfl,rfl⟩:=hrel;by_cases hk':k<8
    ·have d1:(k:Int)<8:=by omega
     have hX:=aj.WM Hx.o cb k;have hstep:aj.wC x cb (k+1)=aj.qK (aj.wC x cb k) cb k:=rfl;unfold aj.qK at hstep;generalize aj.wC x cb k=X at *
     have d2:(X:Int)/2%4294967296=((X/2:Nat):Int):=oQ;obtain ⟨p,hp⟩:∃ p,p=X%2:=⟨_,rfl⟩;obtain ⟨q,hq⟩:∃ q,q=cb/2^k%2:=⟨_,rfl⟩;rw [<-hp,<-hq]at hstep;have f1:bits .and .u32 (X:Int) 1=(p:Int):=by
      have:=u32_and_nat X 1 hX aG;rw [Nat.and_one_is_mod,<-hp]at this;exact this
     have hcb:=xG.o;have f2:bits .and .u8 ((cb:Int)/2^k) 1=(q:Int):=by
      have h1:cb/2^k<256:=ajq (aoG _ _) hcb;have:=u8_and_nat (cb/2^k) 1 h1 aG;rw [Nat.and_one_is_mod,<-hq]at this;rw [<-this,Int.natCast_ediv,Int.natCast_pow];rfl
     have f4:(q:Int)%4294967296=(q:Int):=oQ;have f3:bits .xor .u32 ((X:Int)/2) 3988292384=((X/2 ^^^ 3988292384:Nat):Int):=by
      have:=u32_xor_nat (X/2) 3988292384 oQ aG;rw [<-this];rfl
     have hwk:IntKind.u64.wrap ((k:Int)+1)=(k:Int)+1:=by show ((k:Int)+1)%18446744073709551616=_;omega
     have DU:=uQ hstep;clear hstep hp hq hcb hX;by_cases hpq:p=q
     ·subst hpq;go_wp2_with fail
      go_roundg (8-(k+1))
      case measure=>omega
      case rel=>exact ⟨k+1,rfl,by omega,by first|rfl|go_num,by rw [DU.o,abL yF0];rfl,rfl⟩
     ·have hne:((p:Int)==(q:Int))=false:=by rw [ad3];omega
      generalize X/2 ^^^ 3988292384=Y at *
      go_wp2_with fail
      go_roundg (8-(k+1))
      case measure=>omega
      case rel=>exact ⟨k+1,rfl,by omega,by first|rfl|go_num,by rw [DU.o,adU hpq],rfl⟩
    ·obtain rfl:k=8:=by omega
     have d1:¬ ((8:Nat):Int)<8:=by decide
     go_wp2_with fail
     go_roundg (l.length-(i+1))
     case measure=>have:=Vp.o;omega
     case rel=>exact ⟨i+1,rfl,ad8 Vp.o,by first|rfl|go_num,by rw [sJ.o],rfl⟩
  ·obtain rfl:i=l.length:=by omega
   have hic:¬ (l.length:Int)<(l.length:Int):=oQ;rw [aeH]at *
   have hn2:bits .xor .u32 ((l.foldl aj.mP 4294967295:Nat):Int) 4294967295=((4294967295-l.foldl aj.mP 4294967295:Nat):Int):=by
    have h1:=RU _ uN;have h2:=u32_xor_nat (l.foldl aj.mP 4294967295) 4294967295 uN aG;have h3:=u32_xor_nat 4294967295 (l.foldl aj.mP 4294967295) aG uN;rw [<-h1];show bits .xor .u32 _ ((4294967295:Nat):Int)=bits .xor .u32 ((4294967295:Nat):Int) _;rw [h2,h3,Nat.xor_comm]
   have hfin:aj.crc l=4294967295-l.foldl aj.mP 4294967295:=rfl;rw [<-hfin]at hn2;generalize l.foldl aj.mP 4294967295=x at *
   clear hi hi' uN hfin;go_wp2;go_ret;exact ⟨_,rfl,rfl,rfl⟩
theorem TI (l:Bs) (hr:aW 1 bv (aB l) w) (hl:l.length<=1099511627776) :
  Calls prog 138 #[bv] w (aN λv w'=>v=.int .u32 (aj.crc l:Nat)/\w=w'):=by
 have ha:=akT l hr hl;obtain ⟨a,n,c,rfl,hn,_⟩:=id hr;clear hr hl;go_enter func138,ntmps138;go_wp2_with fail;refine ha.mono ?_;rintro e w1 ⟨v,rfl,rfl,rfl⟩;clear ha;go_wp2;go_ret;exact ⟨_,rfl,rfl,rfl⟩
end Go.Proofs.Y
