import Derived.Test.YtihngncbioofnaaGreatDoorJ2
import Derived.Deep.MidRow
import Derived.Laws.ResultCell
import Derived.Laws.IdiomStrings
import Derived.Lib.BufferRead
open Go.Proofs.Tryz
set_option maxRecDepth 20000
set_option linter.unusedVariables false
set_option linter.unusedSimpArgs false
set_option maxHeartbeats 128000000
open Go Go.Sl Go.MapKept Go.RowKit
open Go.Proofs.YtihngncbioofnaaGreatDoor
variable {w w0:World}{v x dv lv bv vx vy:Value}{R F L L':List aG}{P:Program}{ops:Array Oper}{a:Act}{Q:Exit->Act->World->Prop}{dst:Option Tmp}{t ty T e tz:TypeId}{after:Array Edge}{y s:Operand}{b n sz eX q p m K fl c dn dc:Nat}{rest:List Oper}{cs:Array Value}{xs ys:List Value}{G:World->Prop}{late:List Nat}{oi:Oper}{l:Array Bool}{M:ay.ay}{ad:Addr}{bo:BinOp}{da:Option Addr}
theorem yC0{p:Prop} (h:p:=by intro wq hq;first|exact hq|exact hq.1|exact hq.2|exact hq.2.1|exact hq.2.2|exact hq.2.2.1|exact hq.2.2.2|exact hq.2.2.2.1|exact hq.2.2.2.2):p:=h
theorem yD0{p:Prop} (h:p:=by first|assumption|exact fF _ _ rfl|exact fF _ _ aQ|exact fF _ _ (apJ aQ)):p:=h
theorem yL0{p:Prop} (h:p:=by first|rfl|assumption|exact apJ aQ):p:=h
theorem yT0{p:Prop} (h:p:=by rw [ad3];omega):p:=h
theorem zD0{p:Prop} (h:p:=by simpa using hj):p:=h
namespace Go.Proofs.Y
open Go.ay
theorem al8 (t ty e:TypeId) (i:TypeInfo) (z:Value) (ht:P.underlying t=some (.slice e)) (hi:P.info? e=some i) (hz:i.zero=some z)
  (hs:i.size=1) (hzs:z.cells.size=1) (b n cap:Nat) (hl:xs.length=n) (hcap:cap<=n) (hold:bF 1 (.slice (some ⟨b,0,none⟩) n cap) xs w)
  (h:Sat w0 w R) (hx:bF 1 x ys w) (hy0:ys≠[]) (h63:xs.length+ys.length<=maxLen) (hby:(xs.length+ys.length)*i.bytes<=140737488355328) :
  ∃ b' n' c' w',(Builtin.append_ #[t,t] ty #[.slice (some ⟨b,0,none⟩) n cap,x]).run P w=.ok (.slice (some ⟨b',0,none⟩) n' c') w'/\Sat w0 w' (aC e 1 (.slice (some ⟨b',0,none⟩) n' c') (xs++ys)::R):=by
 obtain ⟨xa,m,c,rfl,hyl,yE⟩:=hx;obtain ⟨b1,n1,c1,he1,hol,hoc⟩:=hold;cases he1;rw [aes]at hyl;have hm:0<m:=by
  rw [<-hyl];exact apO.2 hy0
 obtain ⟨ad,rfl⟩:∃ ad,xa=some ad:=by
  obtain ⟨y,hy⟩:∃ y,ys[0]?=some y:=by
   cases ys with
   |nil=>exact absurd rfl hy0
   |cons y _=>exact ⟨y,rfl⟩
  obtain ⟨b,hb,_⟩:=yE 0 y hy;exact ⟨b,hb⟩
 have hnews:∀ j u,ys[j]?=some u->w.cell? (ad.add j)=some u:=λj u hj=>by
  obtain ⟨b,hb,hx⟩:=yE j u hj;cases hb;exact hx
 have holds:∀ j u,xs[j]?=some u->w.cell? ((⟨b,0,none⟩:Addr).add j)=some u:=λj u hj=>by
  obtain ⟨b',hb,hx⟩:=hoc j u hj;cases hb;exact hx
 have h63':maxLen=9223372036854775807:=rfl;have hr:=run_append_grow (P:=P) w t ty e i z ht hi hz ⟨b,0,none⟩ n cap xs (by rw [hs];omega) holds ad m c ys (by rw [hs];omega) hnews oQ oQ (growslice_fits oQ (by rw [<-hl,<-hyl];exact hby));refine ⟨_,_,_,_,hr,?_⟩;have hge:=grownCap_ge w (n+m) cap e;have hcm:=grownCap_le_maxLen w (n+m) cap e oQ;have:=(h.drew).alloc (.cells (xs.toArray++ys.toArray++Builtin.zeroCells z.cells (grownCap w (n+m) cap e-(n+m))) e);refine Sat.lN this ?_ hge ?_ hcm ?_
 ·rw [aaL,hl,hyl,aes]
 ·simp only [Array.size_append,abn,size_zeroCells,hzs];omega
 ·simp only [ap3,adQ];rw [<-adQ];have e1:(n+m)*1=(xs++ys).length:=by rw [aaL,hl,hyl,aes]
  rw [e1];exact List.take_left
theorem anu {ops:Array Oper}{o:Oper}{a:Act}{K:Act->World->Prop}{Q:Exit->Act->World->Prop}{E:Prop} (hgd:o.guard=none) (s y:Operand) (t:TypeId)
  (ho:o.op=.call { callee:= .builtin .append,args:=#[s,y],argTypes:=#[t,t] })
  (e:TypeId) (i:TypeInfo) (z:Value) (ht:P.underlying t=some (.slice e)) (hi:P.info? e=some i) (hz:i.zero=some z)
  (hs:i.size=1) (hzs:z.cells.size=1) {b n cap:Nat} (hl:xs.length=n) (hcap:cap<=n) (hold:bF 1 (.slice (some ⟨b,0,none⟩) n cap) xs w)
  (h:Sat w0 w R) (hv:a.eval s=.slice (some ⟨b,0,none⟩) n cap) (hxv:a.eval y=x) (hx:bF 1 x ys w) (hy0:ys≠[]) (h63:xs.length+ys.length<=maxLen) (hby:(xs.length+ys.length)*i.bytes<=140737488355328)
  (hK:∀ b' n' c' w',Sat w0 w' (aC e 1 (.slice (some ⟨b',0,none⟩) n' c') (xs++ys)::R)->K (a.put o.dst (.slice (some ⟨b',0,none⟩) n' c')) w') :
  if Region.wanted o (yielded ops a.tmps)=true then Oper.wp P o a w K Q else E:=by
 have hw:Region.wanted o (yielded ops a.tmps)=true:=by simp [Region.wanted,hgd]
 rw [acg hw];obtain ⟨b',n',c',w',hr,h2⟩:=al8 (P:=P) t o.type e i z ht hi hz hs hzs b n cap hl hcap hold h hx hy0 h63 hby;unfold Oper.wp execOp;simp only [ho,resolve,invoke,builtin,ad1,aek,adu,aeX,ad7,aeF,hv,hxv,hr];exact hK _ _ _ w' h2
section
variable {L:Seg.Log}
theorem uq (h:Sat w0 w (nK p m L lv::F)) :
  Calls prog 45 #[ptr p] w (aP λv w'=>v=.bool true/\w=w'):=by
 have c0:=h.cellAt 0 _ rfl;go_enter func45,ntmps45;go_wp2;go_ret;exact ⟨_,rfl,rfl,rfl⟩
theorem akc (hl:L.l=[]) (h:Sat w0 w (nK p m L lv::aC 105 2 lv (eY L.l)::F)) :
  Calls prog 171 #[ptr p] w (aP λv w'=>v=.int .i64 0/\w=w'):=by
 have hok:=uq h;have c2:=h.cellAt 2 _ rfl;have hlv:∃ a c,lv=.slice a 0 c:=by
  obtain ⟨a,n,c,rfl,hn,_⟩:=Sat.rd h.bf;refine ⟨a,c,?_⟩;rw [hl]at hn;have:n=0:=by simp [eY]at hn;omega
  rw [this]
 obtain ⟨la,lc,rfl⟩:=hlv;go_enter func171,ntmps171;go_wp2_with (go_at_call 45;refine hok.mono ?_;rintro e w1 ⟨v,rfl,rfl,rfl⟩);go_ret;exact ⟨_,rfl,rfl,rfl⟩
theorem am2 (hon:L.on=false) (h:Sat w0 w (nK p m L lv::F)) :
  Calls prog 170 #[ptr p] w (aP λv w'=>v=errno 0/\w=w'):=by
 have c3:=h.cellAt 3 _ rfl;rw [hon]at c3;go_enter func170,ntmps170;go_wp2;go_ret;exact ⟨_,rfl,rfl,rfl⟩
end
def eU (cs:Array Value):Nat->List Value->Array Value
 |_,[]=>cs
 |o,v::r=>eU (cs.setIfInBounds o v) (o+1) r
theorem kW:∀ (vs:List Value) (cs:Array Value) (o:Nat),(eU cs o vs).size=cs.size
 |[],_,_=>rfl
 |v::r,cs,o=>by rw [eU,kW r,Array.size_setIfInBounds]
theorem Sat.sets:∀ (vs:List Value){cs:Array Value}{T:TypeId}{w:World} (o:Nat),Sat w0 w (pt b (.cells cs T (0,0))::R)->Sat w0 (w.setCells b o vs) (pt b (.cells (eU cs o vs) T (0,0))::R)
 |[],_,_,_,_,h=>h
 |v::r,_,_,_,o,h=>Sat.sets r (o+1) (h.set o v)
theorem GY {ops:Array Oper}{rest:List Oper}{op:Oper}{a:Act}{Q:Exit->Act->World->Prop}{cs:Array Value}{T:TypeId} (hgd:op.guard=none) (ty:TypeId) (x y:Operand) (ho:op.op=.store ty x y)
  (o:Nat) (v:Value) (hx:a.eval x=.pointer (some ⟨b,o,none⟩)) (hy:a.eval y=v) (hfit:o+v.cells.size<=cs.size)
  (hi:(P.info? ty).map (·.size)=some v.cells.size) (h1:v.cells.all (·.oneCell')=true) (h:Sat w0 w (pt b (.cells cs T (0,0))::R))
  (hK:∀ w',Sat w0 w' (pt b (.cells (eU cs o v.cells.toList) T (0,0))::R)->wpList P ops Q rest (a.put op.dst undef) w'):wpList P ops Q (op::rest) a w:=by
 have hth:w.there b o v.cells.size:=by
  intro j hj;refine ⟨?_,h.pY _⟩;rw [h.cellAt (o+j) _ (ajI (show o+j<cs.size by omega))]
  rfl
 refine aeV hgd λ_ hK'=>?_
 have hst:=run_storeCells_cells (P:=P) b o v.cells.toList 0 w (λj hj=>by simpa using (hth j zD0).1) (λj hj=>by simpa using (hth j zD0).2)
  (λu hu=>(Array.all_eq_true_iff_forall_mem.1 h1) u (by simpa using hu))
 have hrun:(storeVar ty ⟨b,o,none⟩ v).run P w=.ok () (w.setCells b o v.cells.toList):=by
  cases hq:P.info? ty with
  |none=>simp [hq]at hi
  |some i=>
   have hs:v.cells.size=i.size:=by simp [hq]at hi;omega
   simp only [ai6]at hst;simp [storeVar,sizeOf,typeInfo,hq,hs,hst]
 unfold Oper.wp execOp;simp only [ho,hx,hy,Instr.storeAt,Instr.sureAddr,ad1,aek,adu,hrun];exact hK' _ _ (hK _ (Sat.sets _ _ h))
structure Stop (p:Prop):Prop where
 out:p
theorem Stop.o:type_of% @Stop.out:=@Stop.out
theorem aoB {ops:Array Oper}{rest:List Oper}{op:Oper}{a:Act}{Q:Exit->Act->World->Prop}{ty:TypeId}{x y:Operand} (ho:op.op=.store ty x y)
  (h:Stop (wpList P ops Q (op::rest) a w)):wpList P ops Q (op::rest) a w:=h.o
end Go.Proofs.Y
namespace Go.Sl
open Go
def Pick (A:aG) (L R:List aG):Prop:=L.Perm (A::R)
def pW (A B:aG) (L L':List aG):Prop:=∃ R,L.Perm (A::R)/\L'.Perm (B::R)
def Sub (L M:List aG):Prop:=∃ X,L.Perm (M++X)
section
variable {A B A1 A2 A3 A4 A5 A6 A7 A8 A9 A10 A11 A12:aG}{L M R L':List aG}{w0 w:World}
theorem aS (h:Pick A L R):Pick A (B::L) (B::R):=(h.cons B).trans (List.Perm.swap _ _ _)
theorem aU:Pick A (A::R) R:=aok _
theorem bf:Pick A (A1::A::R) (A1::R):=aS aU
theorem eH:Pick A (A1::A2::A::R) (A1::A2::R):=aS bf
theorem iO:Pick A (A1::A2::A3::A::R) (A1::A2::A3::R):=aS eH
theorem rH:Pick A (A1::A2::A3::A4::A::R) (A1::A2::A3::A4::R):=aS iO
theorem akG:Pick A (A1::A2::A3::A4::A5::A::R) (A1::A2::A3::A4::A5::R):=aS rH
theorem ku (h:pW A B L L'):pW A B (A1::L) (A1::L'):=by
 obtain ⟨R,h1,h2⟩:=h;exact ⟨A1::R,(h1.cons A1).trans (List.Perm.swap _ _ _),(h2.cons A1).trans (List.Perm.swap _ _ _)⟩
theorem cZ:pW A B (A::R) (B::R):=⟨R,aok _,aok _⟩
theorem TV:pW A B (A1::A::R) (A1::B::R):=ku cZ
theorem an8:pW A B (A1::A2::A::R) (A1::A2::B::R):=ku TV
theorem TM:Sub L L:=⟨[],by simp⟩
theorem TL (h:Sub L M):Sub (A::L) M:=by
 obtain ⟨X,h⟩:=h;exact ⟨A::X,(h.cons A).trans apb.symm⟩
theorem TN (p:Pick A L R) (h:Sub R M):Sub L (A::M):=by
 obtain ⟨X,h⟩:=h;exact ⟨X,p.trans (h.cons A)⟩
theorem Sat.pick (h:Sat w0 w L) (p:Pick A L R):Sat w0 w (A::R):=h.perm p
theorem Sat.sub (h:Sat w0 w L) (p:Sub L M):Sat w0 w M:=by
 obtain ⟨X,h2⟩:=p;exact (h.perm h2).XA
theorem Ro.oI {A:aG}{p:World->Prop} (h:Ro w0 (A::R) p) (k:Pick A L R):Ro w0 L p:=λw hw=>h w (hw.pick k)
theorem Ro.of_sub {p:World->Prop} (h:Ro w0 M p) (k:Sub L M):Ro w0 L p:=λw hw=>h w (hw.sub k)
theorem Sat.cellP {b:Nat}{cs:Array Value}{T:TypeId} (h:Sat w0 w L) (p:Pick (pt b (.cells cs T (0,0))) L R) (i:Nat){v:Value} (hv:cs[i]?=some v):w.cell? ⟨b,i,none⟩=some v:=(h.pick p).cellAt i v hv
end
end Go.Sl
namespace Go.Proofs.Y
open Go.ay
section
variable {pos:String}{x:Operand}{o:Nat}
def AO (P:Program) (ty:TypeId):Bool:=match P.underlying ty with
 |some d => !d.isRow
 |none=>false
theorem amk (h1:AO P ty=true) (hc:w.cell? ⟨b,o,none⟩=some v):(loadVar ty ⟨b,o,none⟩).run P w=.ok v w:=by
 unfold AO at h1;cases hu:P.underlying ty with
 |none=>rw [hu]at h1;cases h1
 |some d=>
  rw [hu]at h1;have hagg:(isAgg ty).run P w=.ok false w:=by
   unfold isAgg;rw [ad1,afM hu w];cases d <;> simp_all [TypeDesc.isRow]
  simp [loadVar,ad1,hagg];rw [hc]
theorem acw {ad:Addr} (h1:AO P ty=true) (hc:w.cell? ad=some v):(loadVar ty ad).run P w=.ok v w:=by
 unfold AO at h1;cases hu:P.underlying ty with
 |none=>rw [hu]at h1;cases h1
 |some d=>
  rw [hu]at h1;have hagg:(isAgg ty).run P w=.ok false w:=by
   unfold isAgg;rw [ad1,afM hu w];cases d <;> simp_all [TypeDesc.isRow]
  simp [loadVar,ad1,hagg];rw [hc]
theorem XZ (a:Act) (after:Array Edge) (g:Option (Nat×Bool)):execOp a.eval ⟨dst,.call { callee:= .builtin .len,args:=#[x],argTypes:=#[ty] },t,pos,after,g⟩=(do pure (.value (<-Builtin.len_ #[ty] t #[a.eval x]))):=by
 rw [BigFrame.execOp_builtin,BigFrame.builtin_len];simp
theorem ahO {i:Nat} (hlt:i+1<=cs.size) (hv:cs.getD i undef=v):cs[i]?=some v:=by
 rw [<-hv,ajS,ajI (show i<cs.size by omega)];rfl
theorem fZ (hs:Sat w0 w L) (hx:a.eval x=.pointer (some ⟨b,o,none⟩)) (p:Pick (pt b (.cells cs T (0,0))) L R) (hlt:o+1<=cs.size) (hv:cs.getD o undef=v) (h1:AO P ty=true)
  (h:wpList P ops Q rest (a.put dst v) w):wpList P ops Q (⟨dst,.load ty x,t,pos,after,none⟩::rest) a w:=
 aeV rfl λ_ hK=>by
  unfold Oper.wp execOp;simp only [hx,Instr.loadAt,Instr.sureAddr,ad1,aek,adu,amk h1 (hs.cellP p o (ahO hlt hv))];exact hK _ _ h
theorem DY (ks:List Value) (hs:Sat w0 w L) (hx:a.eval x=.pointer (some ⟨b,o,none⟩)) (p:Pick (pt b (.cells cs T (0,0))) L R) (hv:∀ j v,ks[j]?=some v->cs[o+j]?=some v)
  {d:TypeDesc} (hu:P.underlying ty=some d) (hd:d.isRow=true) (hi:(P.info? ty).map (·.size)=some ks.length)
  (h:wpList P ops Q rest (a.put dst (.agg ks.toArray)) w):wpList P ops Q (⟨dst,.load ty x,t,pos,after,none⟩::rest) a w:=
 wpList_load_mid rfl ty x rfl b o hx ks d (λj v hj=>hs.cellP p (o+j) (hv j v hj)) hu hd hi h
theorem iQ (hs:Sat w0 w L) (hx:a.eval x=.pointer (some ⟨b,0,none⟩)) (p:Pick (pt b (.cells cs T (0,0))) L R){d:TypeDesc} (hu:P.underlying ty=some d) (hd:d.isRow=true) (hi:(P.info? ty).map (·.size)=some cs.size)
  (h:wpList P ops Q rest (a.put dst (.agg cs)) w):wpList P ops Q (⟨dst,.load ty x,t,pos,after,none⟩::rest) a w:=by
 refine wpList_load_row rfl ty x rfl b hx T cs (0,0) d (hs.pick p).at hu ?_ hi h;cases d <;> simp_all [TypeDesc.isRow]
theorem gq (hs:Sat w0 w L) (hx:a.eval x=.pointer (some ⟨b,o,none⟩)) (hy:a.eval y=v){cs':Array Value} (hcs:eU cs o v.cells.toList=cs') (u:pW (pt b (.cells cs T (0,0))) (pt b (.cells cs' T (0,0))) L L') (hfit:o+v.cells.size<=cs.size)
  (hi:(P.info? ty).map (·.size)=some v.cells.size) (h1:v.cells.toList.all (·.oneCell')=true)
  (hK:∀ w',Sat w0 w' L'->wpList P ops Q rest (a.put dst undef) w'):wpList P ops Q (⟨dst,.store ty x y,t,pos,after,none⟩::rest) a w:=by
 subst hcs;obtain ⟨R',h2,h3⟩:=u;exact GY rfl ty x y rfl o v hx hy hfit hi (by rw [<-Array.all_toList];exact h1) (hs.perm h2) λw' hS=>hK w' (hS.perm h3.symm)
theorem fE (hs:Sat w0 w L) (hy:a.eval y=v) (hcs:v.cells=cs)
  (hK:∀ b w',Sat w0 w' (pt b (.cells cs ty (0,0))::L)->wpList P ops Q rest (a.put dst (.pointer (some ⟨b,0,none⟩))) w'):wpList P ops Q (⟨dst,.box ty y,t,pos,after,none⟩::rest) a w:=by
 subst hcs;refine aeV rfl λ_ hK'=>?_;have hS:=hs.alloc (.cells v.cells ty);unfold Oper.wp execOp;have hrun:(Instr.box ty v).run P w=.ok (.pointer (some ⟨w.heap.size,0,none⟩)) (w.alloc (.cells v.cells ty)):=by
  simp [Instr.box,newVar,newRow,go_sem]
 simp only [hy,ad1,aek,hrun,adu];exact hK' _ _ (hK _ _ hS)
def jF (P:Program) (ty:TypeId):Option Value:=(P.info? ty).bind (·.zero)
theorem Lc (hz:jF P ty=some v) (w:World):(zeroValue ty).run P w=.ok v w:=by
 unfold jF at hz;cases hq:P.info? ty with
 |none=>simp [hq]at hz
 |some i=>
  rw [hq]at hz;have hz':i.zero=some v:=hz;simp [zeroValue,typeInfo,hq,hz']
theorem eF (hz:jF P ty=some v) (hs:Sat w0 w L) (hcs:v.cells=cs)
  (hK:∀ b w',Sat w0 w' (pt b (.cells cs ty (0,0))::L)->wpList P ops Q rest (a.put dst (.pointer (some ⟨b,0,none⟩))) w'):wpList P ops Q (⟨dst,.alloc ty,t,pos,after,none⟩::rest) a w:=by
 subst hcs;refine aeV rfl λ_ hK'=>?_;have hS:=hs.alloc (.cells v.cells ty);unfold Oper.wp execOp;have hrun:(Instr.alloc ty true (.tuple #[])).run P w=.ok (.pointer (some ⟨w.heap.size,0,none⟩)) (w.alloc (.cells v.cells ty)):=by
  simp [Instr.alloc,Lc hz w,newVar,newRow,go_sem,Result.andThen]
 simp only [ad1,aek,hrun,adu];exact hK' _ _ (hK _ _ hS)
theorem oW {fn:Func}{p u:Tmp}{tmps:Array Value}{d:TypeDesc} (hf:fn.results=#[.cell p ty,.tmp u]) (hs:Sat w0 w L) (hp:tmps.getD p undef=.pointer (some ⟨b,0,none⟩)) (k:Pick (pt b (.cells cs T (0,0))) L R)
  (hu:P.underlying ty=some d) (hd:d.isRow=true) (hi:(P.info? ty).map (·.size)=some cs.size) :
  (results fn tmps).run P w=.ok (.tuple #[.agg cs,tmps.getD u undef]) w:=by
 rw [results_cell_tmp hf tmps P w,hp];have hl:=run_loadVar_row (P:=P) w b T ty cs (0,0) d (hs.pick k).at hu (by cases d <;> simp_all [TypeDesc.isRow]) hi;simp [asAddr,hl,Result.andThen]
theorem aK.shut2 {p m:Nat}{L:Seg.Log}{lv:Value}{F:List aG} (h:Sat w0 w (nK p m L lv::aC 105 2 lv (eY L.l)::F)):Sat w0 w (aK p m L::F):=aK.shut h
theorem aK.oV {p m:Nat}{L:Seg.Log}{F:List aG} (h:Sat w0 w (aK p m L::F)):∃ lv,Sat w0 w (nK p m L lv::aC 105 2 lv (eY L.l)::F):=aK.open h
theorem l9:∀ (ys:List Value) (cs:Array Value) (o:Nat),o+ys.length<=cs.size->(eU cs o ys).toList=cs.toList.take o++ys++cs.toList.drop (o+ys.length)
 |[],cs,o,h=>by simp [eU]
 |y::ys,cs,o,h=>by
  simp only [aep]at h;rw [eU,l9 ys _ (o+1) (by rw [Array.size_setIfInBounds];omega),Array.toList_setIfInBounds];have hlt:o<cs.toList.length:=by simp;omega
  rw [List.set_eq_take_append_cons_drop,acg hlt];have h1:(cs.toList.take o).length=o:=by rw [ads];omega
  rw [List.take_append,h1,ad9 oQ,show o+1-o=1 by omega,List.take_succ_cons,aeO];rw [apU,h1,aew (l:=cs.toList.take o) oQ,aeu,show o+1+ys.length-o=ys.length+1 by omega,ap4,apZ];simp only [aep,adQ,aeI,aeu];rw [show o+1+ys.length=o+(ys.length+1) by omega]
theorem bP (h:Stop (wpList P ops Q (⟨dst,.load ty x,t,pos,after,none⟩::rest) a w)):wpList P ops Q (⟨dst,.load ty x,t,pos,after,none⟩::rest) a w:=h.o
theorem dh (h:Stop (wpList P ops Q (⟨dst,.store ty x y,t,pos,after,none⟩::rest) a w)):wpList P ops Q (⟨dst,.store ty x y,t,pos,after,none⟩::rest) a w:=h.o
theorem fD (h:Stop (wpList P ops Q (⟨dst,.box ty y,t,pos,after,none⟩::rest) a w)):wpList P ops Q (⟨dst,.box ty y,t,pos,after,none⟩::rest) a w:=h.o
theorem fB (h:Stop (wpList P ops Q (⟨dst,.alloc ty,t,pos,after,none⟩::rest) a w)):wpList P ops Q (⟨dst,.alloc ty,t,pos,after,none⟩::rest) a w:=h.o
theorem nR {ix:Nat}{k:Nat} (h:Stop (wpList P ops Q (⟨dst,.buildSlice ty k #[(ix,x)],t,pos,after,none⟩::rest) a w)):wpList P ops Q (⟨dst,.buildSlice ty k #[(ix,x)],t,pos,after,none⟩::rest) a w:=h.o
theorem lH {s z:Operand}{ta tb:TypeId} (h:Stop (wpList P ops Q (⟨dst,.call { callee:= .builtin .append,args:=#[s,z],argTypes:=#[ta,tb] },t,pos,after,none⟩::rest) a w)):wpList P ops Q (⟨dst,.call { callee:= .builtin .append,args:=#[s,z],argTypes:=#[ta,tb] },t,pos,after,none⟩::rest) a w:=h.o
section
variable {uo:UnOp}
theorem mF (o:Oper) (h:o.guard=none):Region.wanted o (yielded ops a.tmps)=true:=by simp [Region.wanted,h]
theorem aoN (hx:a.eval x=v):Yields P ops ⟨dst,.move x,t,pos,after,none⟩ v a:=
 .inl ⟨mF _ rfl,λw=>by simp only [execOp,hx];rfl⟩
theorem aoJ (hx:a.eval x=v):Yields P ops ⟨dst,.assign x,t,pos,after,none⟩ v a:=
 .inl ⟨mF _ rfl,λw=>by simp only [execOp,hx];rfl⟩
theorem aoO (hx:a.eval x=.pointer (some ad)):Yields P ops ⟨dst,.nilCheck x,t,pos,after,none⟩ (.pointer (some ad)) a:=
 .inl ⟨mF _ rfl,λw=>by simp only [execOp,hx];rfl⟩
theorem aoL (hx:a.eval x=vx) (hr:∀ w,(Instr.fieldAt ty vx fl).run P w=.ok v w):Yields P ops ⟨dst,.fieldAddr ty x fl,t,pos,after,none⟩ v a:=
 .inl ⟨mF _ rfl,λw=>by simp only [execOp,hx,ad1,hr,adu,aek]⟩
theorem aoM (hx:a.eval x=vx) (hy:a.eval y=vy) (hr:∀ w,(Instr.indexAt ty vx vy).run P w=.ok v w):Yields P ops ⟨dst,.indexAddr ty x y,t,pos,after,none⟩ v a:=
 .inl ⟨mF _ rfl,λw=>by simp only [execOp,hx,hy,ad1,hr,adu,aek]⟩
theorem BA (hx:a.eval x=vx) (hy:a.eval y=vy) (hr:∀ w,((do eqGuard bo ty x y vx vy;binOp bo ty vx vy):Sem Value).run P w=.ok v w):Yields P ops ⟨dst,.binOp bo ty x y tz,t,pos,after,none⟩ v a:=
 .inl ⟨mF _ rfl,λw=>by simp only [execOp,hx,hy,ad1 (x:=(do eqGuard bo ty x y vx vy;binOp bo ty vx vy)),hr,adu,aek]⟩
theorem adL (hx:a.eval x=vx) (hr:∀ w,(Op.unary uo vx).run P w=.ok v w):Yields P ops ⟨dst,.unOp uo ty x,t,pos,after,none⟩ v a:=
 .inl ⟨mF _ rfl,λw=>by simp only [execOp,hx,ad1,hr,adu,aek]⟩
theorem UJ (hx:a.eval x=vx) (hr:∀ w,(convert ty tz vx).run P w=.ok v w):Yields P ops ⟨dst,.convert ty tz x,t,pos,after,none⟩ v a:=
 .inl ⟨mF _ rfl,λw=>by simp only [execOp,hx,ad1,hr,adu,aek]⟩
theorem iF (hx:a.eval x=vx) (hr:∀ w,(Instr.extract vx fl).run P w=.ok v w):Yields P ops ⟨dst,.extract x fl,t,pos,after,none⟩ v a:=
 .inl ⟨mF _ rfl,λw=>by simp only [execOp,hx,ad1,hr,adu,aek]⟩
theorem qU (hx:a.eval x=vx) (hr:∀ w,(Builtin.len_ #[ty] t #[vx]).run P w=.ok v w):Yields P ops ⟨dst,.call { callee:= .builtin .len,args:=#[x],argTypes:=#[ty] },t,pos,after,none⟩ v a:=
 .inl ⟨mF _ rfl,λw=>by
  rw [XZ,hx];simp only [ad1,hr,adu,aek]⟩
theorem anV (hx:a.eval x=.pointer (some ad)) (h1:AO P ty=true) (hG:∀ w,G w->w.cell? ad=some v):YieldsIf P ops G ⟨dst,.load ty x,t,pos,after,none⟩ v a:=
 .inl ⟨mF _ rfl,λw hw=>by
  obtain ⟨b,o,el⟩:=ad;have hc:=hG w hw;simp only [execOp,hx,Instr.loadAt,Instr.sureAddr,ad1,aek,adu,acw h1 hc]⟩
def goB (P:Program) (f:FuncId):Bool:=match P.funcs[f]? with
 |some fn => !(fn.name == "runtime.NumGoroutine") && fn.body.isSome
 |none=>false
theorem ami {f:FuncId} (h:goB P f=true) (args:Array Value) (w:World):(callFunc f args).run P w=.ok (.enter f args) w:=by
 unfold goB at h;cases hf:P.funcs[f]? with
 |none=>rw [hf]at h;cases h
 |some fn=>
  rw [hf]at h;simp only [aev,aqf]at h;obtain ⟨h1,h2⟩:=h;obtain ⟨c,hc⟩:=Option.isSome_iff_exists.1 h2;have h1':fn.name ≠ "runtime.NumGoroutine" := by simpa using h1
  simp [callFunc,hf,h1',hc]
def Upon (K:Act->World->Prop) (Q:Exit->Act->World->Prop) (a:Act) (dst:Option Tmp) (e:Ending) (w:World):Prop:=
 match e with
 |.returned v=>K (a.put dst v) w
 |.panicked chain=>Q (.panic chain) a w
 |.outgrown=>LetsOut Q
theorem yh {f:FuncId}{xs:Array Operand}{ts:Array TypeId}{K:Act->World->Prop}{E:Prop} (vs:List Value) (hf:goB P f=true) (hv:xs.toList.map a.eval=vs)
  (h:Calls P f vs.toArray w (Upon K Q a dst)):if Region.wanted ⟨dst,.call { callee:= .value (.func f),args:=xs,argTypes:=ts },t,pos,after,none⟩ (yielded ops a.tmps)=true then
   Oper.wp P ⟨dst,.call { callee:= .value (.func f),args:=xs,argTypes:=ts },t,pos,after,none⟩ a w K Q else E:=by
 rw [acg (mF _ rfl)];unfold Oper.wp;have e1:(#[]++xs.map a.eval++#[]:Array Value)=vs.toArray:=by
  rw [<-hv];cases xs;simp
 rw [execOp_call_go,e1,ami hf,Oper.upon_enter];exact h.mono λe w' he=>by cases e <;> exact he
theorem qF {f:FuncId}{x1:Operand}{v1:Value}{ts:Array TypeId}{K:Act->World->Prop}{E:Prop} (hf:goB P f=true) (h1:a.eval x1=v1)
  (h:Calls P f #[v1] w (Upon K Q a dst)):if Region.wanted ⟨dst,.call { callee:= .value (.func f),args:=#[x1],argTypes:=ts },t,pos,after,none⟩ (yielded ops a.tmps)=true then
   Oper.wp P ⟨dst,.call { callee:= .value (.func f),args:=#[x1],argTypes:=ts },t,pos,after,none⟩ a w K Q else E:=
 yh [v1] hf (by simp [h1]) h
theorem iC {f:FuncId}{x1 x2:Operand}{v1 v2:Value}{ts:Array TypeId}{K:Act->World->Prop}{E:Prop} (hf:goB P f=true) (h1:a.eval x1=v1) (h2:a.eval x2=v2)
  (h:Calls P f #[v1,v2] w (Upon K Q a dst)):if Region.wanted ⟨dst,.call { callee:= .value (.func f),args:=#[x1,x2],argTypes:=ts },t,pos,after,none⟩ (yielded ops a.tmps)=true then
   Oper.wp P ⟨dst,.call { callee:= .value (.func f),args:=#[x1,x2],argTypes:=ts },t,pos,after,none⟩ a w K Q else E:=
 yh [v1,v2] hf (by simp [h1,h2]) h
theorem wL {f:FuncId}{x1 x2 x3:Operand}{v1 v2 v3:Value}{ts:Array TypeId}{K:Act->World->Prop}{E:Prop} (hf:goB P f=true) (h1:a.eval x1=v1) (h2:a.eval x2=v2) (h3:a.eval x3=v3)
  (h:Calls P f #[v1,v2,v3] w (Upon K Q a dst)):if Region.wanted ⟨dst,.call { callee:= .value (.func f),args:=#[x1,x2,x3],argTypes:=ts },t,pos,after,none⟩ (yielded ops a.tmps)=true then
   Oper.wp P ⟨dst,.call { callee:= .value (.func f),args:=#[x1,x2,x3],argTypes:=ts },t,pos,after,none⟩ a w K Q else E:=
 yh [v1,v2,v3] hf (by simp [h1,h2,h3]) h
theorem ag1 {f:FuncId}{x1 x2 x3 x4:Operand}{v1 v2 v3 v4:Value}{ts:Array TypeId}{K:Act->World->Prop}{E:Prop} (hf:goB P f=true) (h1:a.eval x1=v1) (h2:a.eval x2=v2) (h3:a.eval x3=v3) (h4:a.eval x4=v4)
  (h:Calls P f #[v1,v2,v3,v4] w (Upon K Q a dst)):if Region.wanted ⟨dst,.call { callee:= .value (.func f),args:=#[x1,x2,x3,x4],argTypes:=ts },t,pos,after,none⟩ (yielded ops a.tmps)=true then
   Oper.wp P ⟨dst,.call { callee:= .value (.func f),args:=#[x1,x2,x3,x4],argTypes:=ts },t,pos,after,none⟩ a w K Q else E:=
 yh [v1,v2,v3,v4] hf (by simp [h1,h2,h3,h4]) h
variable {i:Nat}
theorem RP (i:Nat) (hi:ops.toList[i]?=some oi) (hc:(Region.noSelect ops && Region.free .any ops l i && (Region.ready .any ops l).contains i && xA ops l)=true)
  (hQ:∀ c a w,Q (.panic c) (a.put oi.dst v) w->Q (.panic c) a w) (hy:Yields P ops oi v a) {a':Act} (ha:a.put oi.dst v=a')
  (h:jV P ops Q late G n (l.setIfInBounds i true) a' w):jV P ops Q late G (n+1) l a w:=
 gU (by rw [<-ajw];exact hi) hc hQ hy (by rw [ha];exact h)
theorem gK (i:Nat) (hi:ops.toList[i]?=some oi) (hc:(Region.noSelect ops && Region.free .any ops l i && (Region.ready .any ops l).contains i && Qq ops late i && xA ops l)=true)
  (hQ:∀ c a w,Q (.panic c) (a.put oi.dst v) w->Q (.panic c) a w) (hy:YieldsIf P ops G oi v a) (hG:G w) {a':Act} (ha:a.put oi.dst v=a')
  (h:jV P ops Q late G n (l.setIfInBounds i true) a' w):jV P ops Q late G (n+1) l a w:=
 qx (by rw [<-ajw];exact hi) hc hQ hy hG (by rw [ha];exact h)
theorem bW (i:Nat) (hi:ops.toList[i]?=some oi) (hr:Region.ready .any ops l=[i])
  (h:∀ K:Act->World->Prop,(∀ a' w',keeps late G i w w'->jV P ops Q late G n (l.setIfInBounds i true) a' w'->K a' w') ->
   if Region.wanted oi (yielded ops a.tmps)=true then Oper.wp P oi a w K Q else K (a.put oi.dst undef) w):jV P ops Q late G (n+1) l a w:=
 qw (by rw [<-ajw];exact hi) hr h
end
def pX (P:Program) (t e:TypeId) (sz eX:Nat):Bool:=
 (match P.underlying t with|some (.slice e')=>e'==e|_=>false) &&
 (match P.info? e with
  |some i=>i.size==sz && i.bytes==eX && (match i.zero with|some z=>z.cells.size==sz|none=>false) && decide (0<sz)
  |none=>false)
theorem xW (h:pX P t e sz eX=true):P.underlying t=some (.slice e)/\∃ i z,P.info? e=some i/\i.zero=some z/\i.size=sz/\i.bytes=eX/\z.cells.size=sz/\0<sz:=by
 unfold pX at h;rw [aev]at h;obtain ⟨h1,h2⟩:=h;constructor
 ·split at h1
  ·rename_i e' he;rw [he];congr 2;simpa using h1
  ·cases h1
 ·split at h2
  ·rename_i i hi;simp only [aev,ai5,adY]at h2;obtain ⟨⟨⟨a1,a2⟩,a3⟩,a4⟩:=h2;split at a3
   ·rename_i z hz;exact ⟨i,z,hi,hz,a1,a2,by simpa using a3,a4⟩
   ·cases a3
  ·cases h2
theorem ahk (cs zs:Array Value) (h:zs.size=cs.size):cs.zipIdx.foldl (λacc (x:Value×Nat)=>acc.setIfInBounds (0+x.2) x.1) zs=cs:=by
 have key:∀ (k:Nat) (l:List Value) (acc:Array Value),acc.size=k+l.length->(∀ j,j<k->acc[j]?=cs[j]?)->(∀ j,l[j]?=cs[k+j]?)->k+l.length=cs.size ->
   (l.zipIdx k).foldl (λacc (x:Value×Nat)=>acc.setIfInBounds (0+x.2) x.1) acc=cs:=by
  intro k l
  induction l generalizing k with
  |nil=>
   intro acc h1 h2 _ h4;simp only [List.zipIdx_nil,List.foldl_nil];simp only [aeL,ai6]at h1 h4;apply Array.ext_getElem?;intro j;by_cases hj:j<k
   ·exact h2 j hj
   ·rw [apK oQ,apK oQ]
  |cons v l ih=>
   intro acc h1 h2 h3 h4;simp only [List.zipIdx_cons,List.foldl_cons];simp only [aep]at h1 h4;rw [ad8 k];refine ih (k+1) (acc.setIfInBounds k v) (by rw [Array.size_setIfInBounds];omega) ?_ ?_ oQ
   ·intro j hj;by_cases hjk:j=k
    ·subst hjk;have:=h3 0;simp only [List.getElem?_cons_zero,ai6]at this;rw [<-this,Array.getElem?_setIfInBounds_self_of_lt oQ]
    ·rw [apR oQ];exact h2 j oQ
   ·intro j;have:=h3 (j+1);rw [ajF]at this;rw [this]
    congr 1
    omega
 have:=key 0 cs.toList zs yP0 (λj hj=>absurd hj (Nat.not_lt_zero j)) (λj=>by simp) yF0
 conv=>rhs;rw [<-this]
 rw [<-Array.foldl_toList,Array.toList_zipIdx]
theorem aco (hb:pX P t e sz eX=true) (hsz:v.cells.size=sz) (hle:sz<=16777216) (w:World) :
  (Instr.buildSlice t 1 #[(0,v)]).run P w=.ok (.slice (some ⟨w.heap.size,0,none⟩) 1 1) (w.alloc (.cells v.cells e)):=by
 obtain ⟨hu,i,z,hi,hz,h1,h2,h3,h4⟩:=xW hb;subst h1;have hzv:(zeroValue e).run P w=.ok z w:=by simp [zeroValue,typeInfo,hi,hz]
 have hsz':(sizeOf e).run P w=.ok i.size w:=by simp [sizeOf,typeInfo,hi]
 have hnz:¬ (1*i.size=0):=by omega
 have hle':¬ (1*i.size>2^24):=by omega
 unfold Instr.buildSlice;simp only [ad1,afM hu,adu,hsz',abj hle',abj hnz,hzv,aek];have hf:Instr.fill (λi'=>some (i'*i.size,i.size)) ((Array.range (1*i.size)).map (z.cells[· % z.cells.size]!)) [(0,v)]=some v.cells:=by
  have hs1:((Array.range (1*i.size)).map (z.cells[· % z.cells.size]!)).size=v.cells.size:=by simp [hsz]
  unfold Instr.fill;simp only [Nat.zero_mul];have hc:¬ ((v.cells.size≠i.size || 0+v.cells.size>((Array.range (1*i.size)).map (z.cells[· % z.cells.size]!)).size)=true):=by
   rw [hs1];simp [hsz]
  simp only [abj hc];unfold Instr.fill
  congr 1
  exact ahk _ _ hs1
 simp only [hf];simp [newRow,go_sem]
theorem nN (hb:pX P ty e sz eX=true) (hs:Sat w0 w L) (hy:a.eval x=v) (hcs:v.cells=cs) (hsz:cs.size=sz) (hle:sz<=16777216)
  (hK:∀ b w',Sat w0 w' (pt b (.cells cs e (0,0))::L)->wpList P ops Q rest (a.put dst (.slice (some ⟨b,0,none⟩) 1 1)) w'):wpList P ops Q (⟨dst,.buildSlice ty 1 #[(0,x)],t,pos,after,none⟩::rest) a w:=by
 subst hcs;refine aeV rfl λ_ hK'=>?_;have hS:=hs.alloc (.cells v.cells e);unfold Oper.wp execOp;simp only [hy,aeX,ad7,aeF,ad1,aek,aco hb hsz hle w,adu];exact hK' _ _ (hK _ _ hS)
theorem aom (e:TypeId) (sz eX:Nat) (hb:pX P ty e sz eX=true) (hs:Sat w0 w L) (hv:a.eval s=v) (hy:a.eval y=.slice (some ⟨b,0,none⟩) n c){R2:List aG} (p:Pick (aC e sz v xs) L R) (p2:Pick (pt b (.cells cs T (0,0))) R R2)
  (hn:cs.size=n*sz) (h0:0<n) (h1:cs.toList.all (·.oneCell')=true) (h63:xs.length+cs.size<=maxLen) (hby:(xs.length+cs.size)*eX<=140737488355328)
  (hK:∀ b' n' c' w',Sat w0 w' (aC e sz (.slice (some ⟨b',0,none⟩) n' c') (xs++cs.toList)::R2)->wpList P ops Q rest (a.put dst (.slice (some ⟨b',0,none⟩) n' c')) w') :
  wpList P ops Q (⟨dst,.call { callee:= .builtin .append,args:=#[s,y],argTypes:=#[ty,ty] },t,pos,after,none⟩::rest) a w:=by
 obtain ⟨hu,i,z,hi,hz,e1,e2,e3,e4⟩:=xW hb;subst e2;have hne:xs++cs.toList≠[]:=by
  intro h;have:=aey List.length h;simp only [aaL,ad4,aeL]at this;have:0<n*sz:=Nat.mul_pos h0 e4;omega
 have hrd:bF sz (.slice (some ⟨b,0,none⟩) n c) cs.toList w:=⟨_,n,c,rfl,by simpa using hn,λj x hj=>⟨_,rfl,by
  rw [rC];exact ((hs.pick p).pick (aS p2)).cellAt j x zD0⟩⟩
 refine zo (w0:=w0) rfl s y ty rfl e i z hu hi hz e1 e3 e4 hv hy (λu hu=>(ae0.1 h1) u hu) (hs.pick p) hrd (by simpa using h63) (by simpa using hby) ?_;intro v' w' hS hv';obtain ⟨b',n',c',rfl⟩:=hv' hne;exact hK b' n' c' w' (hS.pick (aS p2)).drop
theorem oh (e:TypeId) (sz eX:Nat) (hb:pX P ty e sz eX=true) (hs:Sat w0 w L) (hv:a.eval s=v) (hy:a.eval y=.slice (some ⟨b,0,none⟩) n c){R2:List aG} (p:Pick (aC e sz v xs) L R) (p2:Pick (pt b (.cells cs T (0,0))) R R2)
  (hn:cs.size=n*sz) (h0:1<=n) (h1:cs.toList.all (·.oneCell')=true) (h63:xs.length<=2147483648) (h64:cs.size<=65536) (hby:eX<=65000) (hys:cs.toList=ys)
  (hK:∀ b' n' c' w',Sat w0 w' (aC e sz (.slice (some ⟨b',0,none⟩) n' c') (xs++ys)::R2)->wpList P ops Q rest (a.put dst (.slice (some ⟨b',0,none⟩) n' c')) w') :
  wpList P ops Q (⟨dst,.call { callee:= .builtin .append,args:=#[s,y],argTypes:=#[ty,ty] },t,pos,after,none⟩::rest) a w:=by
 subst hys;refine aom e sz eX hb hs hv hy p p2 hn h0 h1 zF0 ?_ hK
 calc (xs.length+cs.size)*eX<=(2147483648+65536)*65000:=an9 oQ hby
  _<=140737488355328:=by decide
end
end Go.Proofs.Y
namespace Go.Sl
open Go
section
variable {w0 w:World}{A:aG}{L M R:List aG}
theorem bJ (p:Pick A L R:=by first|((repeat (first|with_reducible apply aU|with_reducible apply aS));done)|((repeat (first|apply aU|apply aS));done)|fail):Pick A L R:=p
theorem kL (p:Sub L M:=by repeat (first|(with_reducible apply TM)|((with_reducible apply TN);(· first|((repeat (first|with_reducible apply aU|with_reducible apply aS));done)|((repeat (first|apply aU|apply aS));done)|fail))|(with_reducible apply TL))):Sub L M:=p
theorem Sat.pk (h:Sat w0 w L) (p:Pick A L R:=by first|((repeat (first|with_reducible apply aU|with_reducible apply aS));done)|((repeat (first|apply aU|apply aS));done)|fail):Sat w0 w (A::R):=h.pick p
theorem Sat.sb (h:Sat w0 w L) (p:Sub L M:=by repeat (first|(with_reducible apply TM)|((with_reducible apply TN);(· first|((repeat (first|with_reducible apply aU|with_reducible apply aS));done)|((repeat (first|apply aU|apply aS));done)|fail))|(with_reducible apply TL))):Sat w0 w M:=h.sub p
theorem Ro.op {p:World->Prop} (h:Ro w0 (A::R) p) (k:Pick A L R:=by first|((repeat (first|with_reducible apply aU|with_reducible apply aS));done)|((repeat (first|apply aU|apply aS));done)|fail):Ro w0 L p:=h.oI k
theorem Ro.os {p:World->Prop} (h:Ro w0 M p) (k:Sub L M:=by repeat (first|(with_reducible apply TM)|((with_reducible apply TN);(· first|((repeat (first|with_reducible apply aU|with_reducible apply aS));done)|((repeat (first|apply aU|apply aS));done)|fail))|(with_reducible apply TL))):Ro w0 L p:=h.of_sub k
end
end Go.Sl
namespace Go.Proofs.Y
open Go.ay
theorem rp (i:Nat) (hi:ops.toList[i]?=some oi:=by conv=>lhs;whnf) (hc:(Region.noSelect ops && Region.free .any ops l i && (Region.ready .any ops l).contains i && xA ops l)=true:=by kernel_rfl)
  (hQ:∀ c a w,Q (.panic c) (a.put oi.dst v) w->Q (.panic c) a w:=by intro _ _ _ h;exact h) (hy:Yields P ops oi v a) {a':Act} (ha:a.put oi.dst v=a':=by go_frame;first|done|rfl)
  (h:jV P ops Q late G n (l.setIfInBounds i true) a' w):jV P ops Q late G (n+1) l a w:=RP i hi hc hQ hy ha h
theorem rt (i:Nat) (hi:ops.toList[i]?=some oi:=by conv=>lhs;whnf) (hc:(Region.noSelect ops && Region.free .any ops l i && (Region.ready .any ops l).contains i && Qq ops late i && xA ops l)=true:=by kernel_rfl)
  (hQ:∀ c a w,Q (.panic c) (a.put oi.dst v) w->Q (.panic c) a w:=by intro _ _ _ h;exact h) (hy:YieldsIf P ops G oi v a:=by first|exact anV (by conv=>lhs;whnf) au yC0|(refine Or.inl ⟨by rfl,?_⟩;(intro wq hq;go_split_ands;go_simp);first|done|(with_reducible rfl))) (hG:G w:=by assumption) {a':Act} (ha:a.put oi.dst v=a':=by go_frame;first|done|rfl)
  (h:jV P ops Q late G n (l.setIfInBounds i true) a' w):jV P ops Q late G (n+1) l a w:=gK i hi hc hQ hy hG ha h
end Go.Proofs.Y
namespace Go.Sl
open Go
theorem fV {A B:aG}{L M:List aG} (p:pW A B L M:=by first|((repeat (first|with_reducible apply cZ|with_reducible apply ku));done)|((repeat (first|apply cZ|apply ku));done)|fail):pW A B L M:=p
theorem ak {α:Sort _}{a b:α} (h:a=b:=by conv=>lhs;whnf):a=b:=h
theorem dw {α:Type}{P:Program}{s:Sem α}{v:α} (h:∀ w,s.run P w=.ok v w:=by ((intro wq;go_simp);first|done|(with_reducible rfl))):∀ w,s.run P w=.ok v w:=h
end Go.Sl
namespace Go.Proofs.Y
open Go.ay
section
variable {pos:String}{x:Operand}{g:Option (Nat×Bool)}
theorem aZ (hx:a.eval x=v:=by conv=>lhs;whnf):Yields P ops ⟨dst,.move x,t,pos,after,none⟩ v a:=aoN hx
theorem bY (hx:a.eval x=vx:=by conv=>lhs;whnf) (hr:∀ w,(Instr.fieldAt ty vx fl).run P w=.ok v w:=by ((intro wq;go_simp);first|done|(with_reducible rfl))):Yields P ops ⟨dst,.fieldAddr ty x fl,t,pos,after,none⟩ v a:=aoL hx hr
theorem dW (hx:a.eval x=.pointer (some ad):=by conv=>lhs;whnf):Yields P ops ⟨dst,.nilCheck x,t,pos,after,none⟩ (.pointer (some ad)) a:=aoO hx
theorem jJ (hx:a.eval x=vx:=by conv=>lhs;whnf) (hy:a.eval y=vy:=by conv=>lhs;whnf) (hr:∀ w,(Instr.indexAt ty vx vy).run P w=.ok v w:=by ((intro wq;go_simp);first|done|(with_reducible rfl))):Yields P ops ⟨dst,.indexAddr ty x y,t,pos,after,none⟩ v a:=aoM hx hy hr
theorem iy (hx:a.eval x=v:=by conv=>lhs;whnf):Yields P ops ⟨dst,.assign x,t,pos,after,none⟩ v a:=aoJ hx
theorem jH (hx:a.eval x=vx:=by conv=>lhs;whnf) (hy:a.eval y=vy:=by conv=>lhs;whnf) (hr:∀ w,((do eqGuard bo ty x y vx vy;binOp bo ty vx vy):Sem Value).run P w=.ok v w:=by ((intro wq;go_simp);first|done|(with_reducible rfl))):Yields P ops ⟨dst,.binOp bo ty x y tz,t,pos,after,none⟩ v a:=BA hx hy hr
end
section
variable {a':Act}
theorem rP (i:Nat) (h:jV P ops Q late G n (l.setIfInBounds i true) a' w) (hi:ops.toList[i]?=some oi:=by conv=>lhs;whnf) (hc:(Region.noSelect ops && Region.free .any ops l i && (Region.ready .any ops l).contains i && xA ops l)=true:=by kernel_rfl) (hQ:∀ c a w,Q (.panic c) (a.put oi.dst v) w->Q (.panic c) a w:=by intro _ _ _ h;exact h) (y:Yields P ops oi v a) (ha:a.put oi.dst v=a':=by go_frame;first|done|rfl):jV P ops Q late G (n+1) l a w:=RP i hi hc hQ y ha h
end
section
variable {pos:String}{x:Operand}{o:Nat}
end
section
variable {pos:String}{x:Operand}{o:Nat}{K:Act->World->Prop}{E:Prop}
theorem yj {op:Oper} (hg:op.guard=none) (h:Oper.wp P op a w K Q):if Region.wanted op (yielded ops a.tmps)=true then Oper.wp P op a w K Q else E:=by
 rw [acg (mF _ hg)];exact h
theorem OV (hb:pX P ty e sz eX=true) (hs:Sat w0 w L) (hy:a.eval x=v) (hcs:v.cells=cs) (hsz:cs.size=sz) (hle:sz<=16777216)
  (hK:∀ b w',Sat w0 w' (pt b (.cells cs e (0,0))::L)->K (a.put dst (.slice (some ⟨b,0,none⟩) 1 1)) w') :
  if Region.wanted ⟨dst,.buildSlice ty 1 #[(0,x)],t,pos,after,none⟩ (yielded ops a.tmps)=true then Oper.wp P ⟨dst,.buildSlice ty 1 #[(0,x)],t,pos,after,none⟩ a w K Q else E:=by
 subst hcs;refine yj rfl ?_;have hS:=hs.alloc (.cells v.cells e);unfold Oper.wp execOp;simp only [hy,aeX,ad7,aeF,ad1,aek,aco hb hsz hle w,adu];exact hK _ _ hS
theorem OU (e:TypeId) (sz eX:Nat) (hb:pX P ty e sz eX=true) (hs:Sat w0 w L) (hv:a.eval s=v) (hy:a.eval y=.slice (some ⟨b,0,none⟩) n c){R2:List aG} (p:Pick (aC e sz v xs) L R) (p2:Pick (pt b (.cells cs T (0,0))) R R2)
  (hn:cs.size=n*sz) (h0:1<=n) (h1:cs.toList.all (·.oneCell')=true) (h63:xs.length<=2147483648) (h64:cs.size<=65536) (hby:eX<=65000) (hys:cs.toList=ys)
  (hK:∀ b' n' c' w',Sat w0 w' (aC e sz (.slice (some ⟨b',0,none⟩) n' c') (xs++ys)::R2)->K (a.put dst (.slice (some ⟨b',0,none⟩) n' c')) w') :
  if Region.wanted ⟨dst,.call { callee:= .builtin .append,args:=#[s,y],argTypes:=#[ty,ty] },t,pos,after,none⟩ (yielded ops a.tmps)=true then
   Oper.wp P ⟨dst,.call { callee:= .builtin .append,args:=#[s,y],argTypes:=#[ty,ty] },t,pos,after,none⟩ a w K Q else E:=by
 refine yj rfl ?_;subst hys;obtain ⟨hu,i,z,hi,hz,e1,e2,e3,e4⟩:=xW hb;subst e2;have hne:xs++cs.toList≠[]:=by
  intro h;have:=aey List.length h;simp only [aaL,ad4,aeL]at this;have:0<n*sz:=Nat.mul_pos h0 e4;omega
 have hrd:bF sz (.slice (some ⟨b,0,none⟩) n c) cs.toList w:=⟨_,n,c,rfl,by simpa using hn,λj x hj=>⟨_,rfl,by
  rw [rC];exact ((hs.pick p).pick (aS p2)).cellAt j x zD0⟩⟩
 have hcl:cs.toList.length=cs.size:=ad4;have h63':xs.length+cs.toList.length<=maxLen:=by rw [hcl];unfold maxLen;omega
 have CG:(xs.length+cs.toList.length)*i.bytes<=140737488355328:=by
  rw [hcl];exact adt (an9 (show xs.length+cs.size<=2147483648+65536 by omega) hby) aN
 refine UD (w0:=w0) s y ty rfl e i z hu hi hz e1 e3 e4 hv hy (λu hu=>(ae0.1 h1) u hu) (hs.pick p) hrd h63' CG ?_;intro v' w' hS hv';obtain ⟨b',n',c',rfl⟩:=hv' hne;exact hK b' n' c' w' (hS.pick (aS p2)).drop
def sN (P:Program) (t:TypeId):Option (List (Nat×Nat)):=match P.underlying t with
 |some (.struct fields)=>fields.toList.mapM λf=>(P.info? f.type).map λi=>(f.offset,i.size)
 |_=>none
theorem run_places (fields:List Field):∀ (pl:List (Nat×Nat)),(fields.mapM λf=>(P.info? f.type).map λi=>(f.offset,i.size))=some pl ->
  ((fields.mapM λf=>do pure (f.offset,<-sizeOf f.type)):Sem (List (Nat×Nat))).run P w=.ok pl w:=by
 induction fields with
 |nil=>intro pl h;cases h;rfl
 |cons f fields ih=>
  intro pl h;rw [List.mapM_cons]at h ⊢;cases hi:P.info? f.type with
  |none=>simp [hi]at h
  |some i=>
   rw [hi]at h;simp only [afW,Option.bind_eq_bind,Option.bind_some,Option.bind_eq_some_iff,Option.pure_def,aqh]at h;obtain ⟨pl',h1,rfl⟩:=h;have hs:(sizeOf f.type).run P w=.ok i.size w:=by simp [sizeOf,typeInfo,hi]
   simp only [ad1,hs,adu,aek,ih pl' h1]
def Gh (pl:List (Nat×Nat)):Array Value->List (Nat×Value)->Array Value
 |cs,[]=>cs
 |cs,(i,v)::r=>Gh pl (eU cs (pl.getD i (0,0)).1 v.cells.toList) r
theorem O8:∀ (vs:List Value) (k:Nat) (off:Nat) (cs:Array Value),(vs.zipIdx k).foldl (λcs (x:Value×Nat)=>cs.setIfInBounds (off+x.2) x.1) cs=eU cs (off+k) vs
 |[],_,_,_=>rfl
 |v::vs,k,off,cs=>by
  rw [List.zipIdx_cons,List.foldl_cons,O8 vs (k+1) off];rfl
theorem X6 (pl:List (Nat×Nat)):∀ (parts:List (Nat×Value)) (cs:Array Value),(∀ p∈parts,∃ off,pl[p.1]?=some (off,p.2.cells.size)/\off+p.2.cells.size<=cs.size) ->
  Instr.fill (pl.toArray[·]?) cs parts=some (Gh pl cs parts)
 |[],_,_=>rfl
 |(i,v)::r,cs,h=>by
  obtain ⟨off,h1,h2⟩:=h _ (.head _);unfold Instr.fill;have hp:pl.toArray[i]?=some (off,v.cells.size):=by simpa using h1
  simp only [hp];have hc:¬ ((v.cells.size≠v.cells.size || off+v.cells.size>cs.size)=true):=by simp;omega
  rw [abj hc];have hf:v.cells.zipIdx.foldl (λcs (c,j)=>cs.setIfInBounds (off+j) c) cs=eU cs off v.cells.toList:=by
   rw [<-Array.foldl_toList,Array.toList_zipIdx];exact O8 _ 0 off cs
  rw [hf,X6 pl r _ (λp hp=>by
   obtain ⟨o,q1,q2⟩:=h p (.tail _ hp);exact ⟨o,q1,by rw [kW];exact q2⟩)]
  have hg:(pl.getD i (0,0)).1=off:=by rw [adT,h1];rfl
  simp only [Gh,hg]
theorem apP {z:Value}{pl:List (Nat×Nat)} (parts:List (Nat×Value)) (hp:sN P t=some pl) (hz:jF P t=some z)
  (hfit:∀ p∈parts,∃ off,pl[p.1]?=some (off,p.2.cells.size)/\off+p.2.cells.size<=z.cells.size) (w:World) :
  (Instr.build t parts.toArray).run P w=.ok (.agg (Gh pl z.cells parts)) w:=by
 unfold sN at hp;split at hp
 ·rename_i fields hu;have hm:((fields.mapM λf=>do pure (f.offset,<-sizeOf f.type)):Sem (Array (Nat×Nat))).run P w=.ok pl.toArray w:=by
   rw [Array.mapM_eq_mapM_toList];rw [map_eq_pure_bind,ad1,run_places fields.toList pl hp]
   rfl
  unfold Instr.build;simp only [ad1,Lc hz w,adu,afM hu,hm,X6 pl parts z.cells hfit,aek]
 ·cases hp
theorem GZ {i1 i2 i3:Nat}{x1 x2 x3:Operand}{v1 v2 v3:Value} (h1:a.eval x1=v1) (h2:a.eval x2=v2) (h3:a.eval x3=v3) (hr:∀ w,(Instr.build ty #[(i1,v1),(i2,v2),(i3,v3)]).run P w=.ok v w) :
  Yields P ops ⟨dst,.build ty #[(i1,x1),(i2,x2),(i3,x3)],t,pos,after,none⟩ v a:=
 .inl ⟨mF _ rfl,λw=>by
  simp only [execOp,aeX,ad7,aeF,h1,h2,h3,ad1,hr,adu,aek]⟩
theorem jh {G:World->Prop}{o:Nat} (ks:List Value) (hx:a.eval x=.pointer (some ⟨b,o,none⟩)){d:TypeDesc} (hu:P.underlying ty=some d) (hd:d.isRow=true) (hi:(P.info? ty).map (·.size)=some ks.length) (hG:∀ w,G w->w.rangeAt b o ks) :
  YieldsIf P ops G ⟨dst,.load ty x,t,pos,after,none⟩ (.agg ks.toArray) a:=
 yieldsIf_load_mid (mF _ rfl) ty x rfl b o hx ks d hG hu hd hi
end
theorem pI {a:Option Addr}{n c:Nat}{xs:List Value} (h:bF sz (.slice a n c) xs w){i:Nat}{x:Value} (hi:xs[i]?=some x) :
  ∃ bk off,a=some ⟨bk,off,none⟩/\∀ j y,xs[j]?=some y->w.cell? ⟨bk,off+j,none⟩=some y:=by
 obtain ⟨a',n',c',he,hl,hx⟩:=h;cases he;obtain ⟨b,rfl,hc⟩:=hx i x hi;have hlt:i<xs.length:=(abm.1 hi).1;obtain ⟨y,hy⟩:∃ y,xs[0]?=some y:=⟨xs[0]'oQ,aay _⟩;obtain ⟨b',hb',hc0⟩:=hx 0 y hy;cases hb';obtain ⟨bk,off,spot⟩:=b;have hs:spot=none:=by simpa [Addr.add] using World.cell?_spot hc0
 subst hs;refine ⟨bk,off,rfl,λj y hj=>?_⟩;obtain ⟨b'',aie,hcj⟩:=hx j y hj;cases aie;rw [Addr.add_mid]at hcj;exact hcj
def ahd (es:List (aj.aI×Value)):List Value:=es.flatMap λp=>lZ p.1 p.2
theorem OY (x:aj.aI) (dv:Value) (hk:x.key.length=32):(lZ x dv).length=34:=by simp [lZ,aA,hk]
theorem ahb (x:aj.aI) (dv:Value){j:Nat}{y:Value} (h:(aA x.key)[j]?=some y):(lZ x dv)[1+j]?=some y:=by
 unfold lZ;rw [apW,ajF,aej (abm.1 h).1];exact h
theorem aha (x:aj.aI) (dv:Value) (hk:x.key.length=32):(lZ x dv)[33]?=some dv:=by
 unfold lZ;rw [ajF,aeh (by rw [aX];omega),aX,hk];rfl
theorem KD:sN prog 52=some [(0,1),(1,32),(33,1)]:=by kernel_rfl
def xE:Value:= .agg (dQ aj.zeroE (.slice none 0 0))
theorem BD:jF prog 52=some xE:=by kernel_rfl
theorem ak8 (cs:Array Value) (hs:cs.size=34) (u dv:Value) (kl:List Value) (hk:kl.length=32):(eU (eU (eU cs 0 [u]) 1 kl) 33 [dv]).toList=u::(kl++[dv]):=by
 have hcl:cs.toList.length=34:=by simpa using hs
 rw [l9 _ _ _ (by rw [kW,kW];simp;omega),l9 _ _ _ (by rw [kW];omega),l9 _ _ _ yW0];simp only [aeO,aeu,aer,ad8];rw [List.singleton_append,List.take_succ_cons,aeO,hk,show 1+32=32+1 by omega,ap4,apZ];have h1:([u]++kl++cs.toList.drop (1+32)).length=34:=by simp [hk,hcl]
 rw [aeC (by simp [hk]),ad9 (by simp [hk]),aew oQ];simp
theorem ql {cs ds:Array Value} (h:cs.toList=ds.toList):cs=ds:=Array.toList_inj.1 h
theorem acr (e:aj.aI) (hk:e.key.length=32) (da:Option Addr) (dn dc:Nat) (w:World) :
  (Instr.build 52 #[(0,.int .i64 e.tag),(1,.agg (aA e.key).toArray),(2,.slice da dn dc)]).run prog w=.ok (.agg (dQ e (.slice da dn dc))) w:=by
 have hz:(dQ aj.zeroE (.slice none 0 0)).size=34:=fF _ _ rfl;have hks:(aA e.key).toArray.size=32:=by simp [aA,hk]
 have h:=apP (P:=prog) [(0,.int .i64 e.tag),(1,.agg (aA e.key).toArray),(2,.slice da dn dc)] KD BD (by
  intro p hp;simp only [ad5,ah4,apX]at hp;have hzz:xE.cells.size=34:=hz;rw [hzz];rcases hp with rfl|rfl|rfl
  ·exact ⟨0,rfl,by show 0+1<=34;omega⟩
  ·refine ⟨1,?_,?_⟩
   ·show some (1,32)=some (1,(aA e.key).toArray.size);rw [hks]
   ·show 1+(aA e.key).toArray.size<=34;rw [hks];omega
  ·exact ⟨33,rfl,by show 33+1<=34;omega⟩) w
 refine h.trans ?_
 congr 2
 apply ql;exact ak8 _ hz _ _ _ (show (aA e.key).toArray.toList.length=32 by rw [ad6,aX,hk])
theorem aby (cs:Array Value) (vs:List Value) (h:vs.length=cs.size):eU cs 0 vs=vs.toArray:=by
 apply ql;rw [l9 _ _ _ oQ,aeO,aeu,aew yW0,adV,ad6]
section
variable {pos:String}{x:Operand}{e:aj.aI}
theorem ag9 (e:aj.aI) (a:Option Addr) (n c:Nat):(dQ e (.slice a n c)).all (·.oneCell')=true:=by
 rw [<-Array.all_toList];unfold dQ lZ;rw [ad6,aql,aiJ];have:(aA e.key).all (·.oneCell')=true:=ae0.2 (wG _);rw [this];rfl
theorem CQ:(prog.info? 52).map (·.size)=some 34:=by kernel_rfl
theorem kM (hs:Sat w0 w L) (hx:a.eval x=.pointer (some ⟨b,0,none⟩)) (hy:a.eval y=.agg (dQ e (.slice da dn dc))) (hk:e.key.length=32) (u:pW (pt b (.cells cs T (0,0))) (pt b (.cells (dQ e (.slice da dn dc)) T (0,0))) L L') (hcs:cs.size=34)
  (hK:∀ w',Sat w0 w' L'->wpList prog ops Q rest (a.put dst undef) w'):wpList prog ops Q (⟨dst,.store 52 x y,t,pos,after,none⟩::rest) a w:=by
 obtain ⟨R',h2,h3⟩:=u;have hz:=fF e (.slice da dn dc) hk;refine GY (w0:=w0) rfl 52 x y rfl 0 (.agg (dQ e (.slice da dn dc))) hx hy (show 0+(dQ e (.slice da dn dc)).size<=cs.size by omega) (show _=some (dQ e (.slice da dn dc)).size by rw [hz];exact CQ) (ag9 _ _ _ _) (hs.perm h2) λw' hS=>hK w' ?_;have he:eU cs 0 (Value.agg (dQ e (.slice da dn dc))).cells.toList=dQ e (.slice da dn dc):=by
  show eU cs 0 (dQ e (.slice da dn dc)).toList=_;rw [aby _ _ yW0]
 rw [he]at hS;exact hS.perm h3.symm
theorem GV (hs:Sat w0 w L) (hx:a.eval x=.pointer (some ⟨b,0,none⟩)) (p:Pick (pt b (.cells (dQ e (.slice da dn dc)) T (0,0))) L R) (hk:e.key.length=32)
  (h:wpList prog ops Q rest (a.put dst (.agg (dQ e (.slice da dn dc)))) w):wpList prog ops Q (⟨dst,.load 52 x,t,pos,after,none⟩::rest) a w:=
 iQ hs hx p underlying52 rfl (by rw [fF e _ hk];exact CQ) h
theorem qE (h:Stop (wpList prog ops Q (⟨dst,.store 52 x y,t,pos,after,none⟩::rest) a w)):wpList prog ops Q (⟨dst,.store 52 x y,t,pos,after,none⟩::rest) a w:=h.o
theorem EK (h:Stop (wpList prog ops Q (⟨dst,.load 52 x,t,pos,after,none⟩::rest) a w)):wpList prog ops Q (⟨dst,.load 52 x,t,pos,after,none⟩::rest) a w:=h.o
theorem amE (w:World):(Instr.build 52 #[]).run prog w=.ok xE w:=apP (P:=prog) [] KD BD yF0 w
theorem uM (hs:Sat w0 w L) (hK:∀ b w',Sat w0 w' (pt b (.cells (dQ aj.zeroE (.slice none 0 0)) 52 (0,0))::L)->wpList prog ops Q rest (a.put dst (.pointer (some ⟨b,0,none⟩))) w') :
  wpList prog ops Q (⟨dst,.alloc 52,t,pos,after,none⟩::rest) a w:=eF BD hs rfl hK
theorem tC (h:Stop (wpList prog ops Q (⟨dst,.alloc 52,t,pos,after,none⟩::rest) a w)):wpList prog ops Q (⟨dst,.alloc 52,t,pos,after,none⟩::rest) a w:=h.o
theorem Gm {fn:Func}{p u:Tmp}{tmps:Array Value} (hf:fn.results=#[.cell p 52,.tmp u]) (hs:Sat w0 w L) (hp:tmps.getD p undef=.pointer (some ⟨b,0,none⟩)) (k:Pick (pt b (.cells (dQ e (.slice da dn dc)) T (0,0))) L R) (hk:e.key.length=32) :
  (results fn tmps).run prog w=.ok (.tuple #[.agg (dQ e (.slice da dn dc)),tmps.getD u undef]) w:=
 oW hf hs hp k underlying52 rfl (by rw [fF e _ hk];exact CQ)
end
section
variable {pos:String}{x:Operand}{g:Nat×Bool}{op:Op}{zs:List Value}
theorem y8 (hw:Region.wanted ⟨dst,op,t,pos,after,some g⟩ (yielded ops a.tmps)=true) (h:wpList P ops Q (⟨dst,op,t,pos,after,none⟩::rest) a w):wpList P ops Q (⟨dst,op,t,pos,after,some g⟩::rest) a w:=by
 unfold wpList at h ⊢;rw [acg hw];rw [acg (mF _ rfl)]at h;exact h
theorem ac4 {xs:Array (Nat×Operand)} (h:Stop (wpList P ops Q (⟨dst,.build ty xs,t,pos,after,some g⟩::rest) a w)):wpList P ops Q (⟨dst,.build ty xs,t,pos,after,some g⟩::rest) a w:=h.o
theorem Gy (h:Stop (wpList P ops Q (⟨dst,.load ty x,t,pos,after,some g⟩::rest) a w)):wpList P ops Q (⟨dst,.load ty x,t,pos,after,some g⟩::rest) a w:=h.o
theorem y7 {xs:Array (Nat×Operand)} (h:Stop (wpList P ops Q (⟨dst,.build ty xs,t,pos,after,none⟩::rest) a w)):wpList P ops Q (⟨dst,.build ty xs,t,pos,after,none⟩::rest) a w:=h.o
theorem vS {xs:Array (Nat×Operand)}{ps:Array (Nat×Value)} (h1:xs.map (λp=>(p.1,a.eval p.2))=ps) (hr:∀ w,(Instr.build ty ps).run P w=.ok v w) (h:wpList P ops Q rest (a.put dst v) w) :
  wpList P ops Q (⟨dst,.build ty xs,t,pos,after,none⟩::rest) a w:=
 aeV rfl λ_ hK=>by
  unfold Oper.wp execOp;simp only [h1,ad1,hr,adu,aek];exact hK _ _ h
end
end Go.Proofs.Y
namespace Go.Tab
open Go.aj (Bs num)
structure Slot (V:Type) where
 st:Nat
 key:Bs
 val:V
def home (k:Bs) (c:Nat):Nat:=num (k.take 4)%c
def pos (k:Bs) (c d:Nat):Nat:=(home k c+d)%c
section
variable {V:Type}{s s':List (Slot V)}{x y:Slot V}{k l:Bs}{v u:V}{d e i j c:Nat}
def Slot.stop (x:Slot V) (k:Bs):Prop:=x.st=0\/(x.st=1/\x.key=k)
instance (x:Slot V) (k:Bs):Decidable (x.stop k):=by unfold Slot.stop;infer_instance
def qQ (s:List (Slot V)) (k:Bs) (i:Nat):Prop:=∃ x,s[i]?=some x/\x.stop k
structure Ends (s:List (Slot V)) (k:Bs) (d:Nat):Prop where
 lt:d<s.length
 here:qQ s k (pos k s.length d)
 no:∀ e,e<d->¬ qQ s k (pos k s.length e)
structure Good (s:List (Slot V)):Prop where
 pow:∃ j,s.length=2^j/\3<=j
 st:∀ x∈s,x.st<=2
 key:∀ x∈s,x.key.length=32
 reach:∀ i x,s[i]?=some x->x.st=1->∃ d,d<s.length/\pos x.key s.length d=i/\∀ e,e<d->¬ qQ s x.key (pos x.key s.length e)
def Has (s:List (Slot V)) (k:Bs) (v:V):Prop:=∃ (i:Nat) (x:Slot V),s[i]?=some x/\x.st=1/\x.key=k/\x.val=v
theorem Good.nY (h:Good s):0<s.length:=by
 obtain ⟨j,h1,_⟩:=h.pow;rw [h1];exact Nat.two_pow_pos j
theorem uz (h:0<c):pos k c d<c:=ao0 _ h
theorem P6 (h:0<c):home k c<c:=ao0 _ h
theorem akX (h:0<c):(pos k c d+1)%c=pos k c (d+1):=by
 unfold pos;rw [Nat.mod_add_mod,apB]
theorem akY (h:0<c):pos k c 0=home k c:=by
 unfold pos;rw [ai6];exact ape (P6 h)
theorem akV (h:i<c):∃ d,d<c/\pos k c d=i:=by
 have hc:0<c:=by omega
 have hh:home k c<c:=P6 hc;by_cases hi:home k c<=i
 ·refine ⟨i-home k c,by omega,?_⟩;unfold pos;rw [show home k c+(i-home k c)=i by omega];exact ape h
 ·refine ⟨i+c-home k c,by omega,?_⟩;unfold pos;rw [show home k c+(i+c-home k c)=i+c by omega,Nat.add_mod_right];exact ape h
theorem akW (hd:d<c) (he:e<c) (h:pos k c d=pos k c e):d=e:=by
 have hc:0<c:=by omega
 have hh:home k c<c:=P6 hc;unfold pos at h;have f:∀ d,d<c->(home k c+d)%c=if home k c+d<c then home k c+d else home k c+d-c:=λd hd=>by
  split
  ·exact ape ‹_›
  ·rw [Nat.mod_eq_sub_mod oQ];exact ape oQ
 rw [f d hd,f e he]at h;split at h <;> split at h <;> omega
theorem least {p:Nat->Prop}:∀ (n:Nat),(∃ d,d<n/\p d)->∃ d,d<n/\p d/\∀ e,e<d->¬ p e
 |0,h=>by obtain ⟨d,hd,_⟩:=h;omega
 |n+1,h=>by
  by_cases h1:∃ d,d<n/\p d
  ·obtain ⟨d,h2,h3,h4⟩:=least n h1;exact ⟨d,by omega,h3,h4⟩
  ·obtain ⟨d,h2,h3⟩:=h;refine ⟨d,h2,h3,λe he h5=>h1 ⟨e,by omega,h5⟩⟩
theorem XP (h:Good s) (hf:∃ x∈s,x.st=0):∃ d,Ends s k d:=by
 obtain ⟨x,hx,h0⟩:=hf;obtain ⟨i,hi,he⟩:=aoY hx;obtain ⟨d,h1,h2⟩:=akV (k:=k) hi;obtain ⟨d',a,b,c⟩:=least (p:=λd=>qQ s k (pos k s.length d)) s.length ⟨d,h1,by rw [h2];exact ⟨x,by rw [aay hi,he],.inl h0⟩⟩;exact ⟨d',a,b,c⟩
theorem Ends.unique (h:Ends s k d) (h':Ends s k e):d=e:=by
 rcases aqg d e with q|q|q
 ·exact absurd h.here (h'.no d q)
 ·exact q
 ·exact absurd h'.here (h.no e q)
theorem Good.ends (h:Good s) (hi:s[i]?=some x) (hf:x.st=1):∃ d,Ends s x.key d/\pos x.key s.length d=i:=by
 obtain ⟨d,h1,h2,h3⟩:=h.reach i x hi hf;exact ⟨d,⟨h1,⟨x,by rw [h2];exact hi,.inr ⟨hf,rfl⟩⟩,h3⟩,h2⟩
theorem Ends.slot (h:Ends s k d):∃ x,s[pos k s.length d]?=some x/\x.stop k:=h.here
theorem Jp (he:Ends s k d) (hx:s[pos k s.length d]?=some x) (hf:x.st=1):x.key=k/\Has s k x.val:=by
 obtain ⟨y,hy,hs⟩:=he.here;rw [hx]at hy;cases hy;rcases hs with h|⟨_,h⟩
 ·omega
 ·exact ⟨h,_,x,hx,hf,h,rfl⟩
theorem Jo (g:Good s) (he:Ends s k d) (hx:s[pos k s.length d]?=some x) (hf:x.st≠1):x.st=0/\∀ v,¬ Has s k v:=by
 obtain ⟨y,hy,hs⟩:=he.here;rw [hx]at hy;cases hy;refine ⟨?_,λv hv=>?_⟩
 ·rcases hs with h|⟨h,_⟩
  ·exact h
  ·exact absurd h hf
 ·obtain ⟨i,z,hz,h1,rfl,_⟩:=hv;obtain ⟨d',h2,h3⟩:=g.ends hz h1;obtain rfl:=he.unique h2;rw [h3,hz]at hx;cases hx;exact hf h1
theorem Good.one (g:Good s) (hx:s[i]?=some x) (hy:s[j]?=some y) (h1:x.st=1) (h2:y.st=1) (hk:x.key=y.key):i=j:=by
 obtain ⟨d,a,b⟩:=g.ends hx h1;obtain ⟨e,a',b'⟩:=g.ends hy h2;rw [<-hk]at a' b';obtain rfl:=a.unique a';rw [<-b,<-b']
theorem vO (hi:i<s.length):(s.set i x)[i]?=some x:=by rw [List.getElem?_set_self hi]
theorem sS (h:i≠j):(s.set i x)[j]?=s[j]?:=List.getElem?_set_ne h
theorem abu (g:Good s) (he:Ends s k d) (hx:s[pos k s.length d]?=some x) (hf:x.st=1) (v:V) :
  Good (s.set (pos k s.length d) ⟨x.st,x.key,v⟩)/\∀ k' v',Has (s.set (pos k s.length d) ⟨x.st,x.key,v⟩) k' v'↔if k'=k then v'=v else Has s k' v':=by
 obtain ⟨hk,_⟩:=Jp he hx hf;have hlt:pos k s.length d<s.length:=uz g.nY;generalize hp:pos k s.length d=p at *
 have hst:∀ q l,qQ (s.set p ⟨x.st,x.key,v⟩) l q↔qQ s l q:=λq l=>by
  unfold qQ;by_cases h:p=q
  ·subst h;rw [vO hlt,hx];constructor
   ·rintro ⟨y,hy,hs⟩;cases hy;exact ⟨x,rfl,hs⟩
   ·rintro ⟨y,hy,hs⟩;cases hy;exact ⟨_,rfl,hs⟩
  ·rw [sS h]
 have hmem:x∈s:=abA hx;refine ⟨⟨by rw [ai3];exact g.pow,λy hy=>?_,λy hy=>?_,λq y hq hy=>?_⟩,λk' v'=>?_⟩
 ·rcases aog hy with h|rfl
  ·exact g.st y h
  ·exact g.st x hmem
 ·rcases aog hy with h|rfl
  ·exact g.key y h
  ·exact g.key x hmem
 ·rw [ai3];by_cases h:p=q
  ·subst h;rw [vO hlt]at hq;cases hq;obtain ⟨d',a,b,c⟩:=g.reach p x hx hf;exact ⟨d',a,b,λe h hh=>c e h ((hst _ _).1 hh)⟩
  ·rw [sS h]at hq;obtain ⟨d',a,b,c⟩:=g.reach q y hq hy;exact ⟨d',a,b,λe h hh=>c e h ((hst _ _).1 hh)⟩
 ·constructor
  ·rintro ⟨q,y,hq,h1,h2,h3⟩;by_cases h:p=q
   ·subst h;rw [vO hlt]at hq;cases hq;rw [acg (h2.symm.trans hk)];exact h3.symm
   ·rw [sS h]at hq;rw [abj λhkk:k'=k=>h (g.one hx hq hf h1 (hk.trans (hkk.symm.trans h2.symm)))];exact ⟨q,y,hq,h1,h2,h3⟩
  ·intro h;split at h
   ·rename_i hkk;exact ⟨p,_,vO hlt,hf,hk.trans hkk.symm,h.symm⟩
   ·rename_i hkk;obtain ⟨q,y,hq,h1,h2,h3⟩:=h;have:p≠q:=λh=>by subst h;rw [hx]at hq;cases hq;exact hkk (h2.symm.trans hk)
    exact ⟨q,y,by rw [sS this];exact hq,h1,h2,h3⟩
theorem Gi (g:Good s) (he:Ends s k d) (hx:s[pos k s.length d]?=some x) (hf:x.st≠1) (hk:k.length=32) (v:V) :
  Good (s.set (pos k s.length d) ⟨1,k,v⟩)/\∀ k' v',Has (s.set (pos k s.length d) ⟨1,k,v⟩) k' v'↔if k'=k then v'=v else Has s k' v':=by
 obtain ⟨h0,hno⟩:=Jo g he hx hf;have hlt:pos k s.length d<s.length:=uz g.nY;have hst:∀ q l,q≠pos k s.length d->(qQ (s.set (pos k s.length d) ⟨1,k,v⟩) l q↔qQ s l q):=λq l h=>by
  unfold qQ;rw [sS (Ne.symm h)]
 have hp0:∀ l,qQ s l (pos k s.length d):=λl=>⟨x,hx,.inl h0⟩;refine ⟨⟨by rw [ai3];exact g.pow,λy hy=>?_,λy hy=>?_,λq y hq hy=>?_⟩,λk' v'=>?_⟩
 ·rcases aog hy with h|rfl
  ·exact g.st y h
  ·exact (by decide:1<=2)
 ·rcases aog hy with h|rfl
  ·exact g.key y h
  ·exact hk
 ·rw [ai3];by_cases h:pos k s.length d=q
  ·subst h;rw [vO hlt]at hq;cases hq;refine ⟨d,he.lt,rfl,λe h=>?_⟩;have hne:pos k s.length e≠pos k s.length d:=λhh=>by have:=akW (Nat.lt_trans h he.lt) he.lt hh;omega
   exact λhh=>he.no e h ((hst _ _ hne).1 hh)
  ·rw [sS h]at hq;obtain ⟨d',a,b,c⟩:=g.reach q y hq hy;refine ⟨d',a,b,λe h=>?_⟩;have hne:pos y.key s.length e≠pos k s.length d:=λhh=>c e h (by rw [hh];exact hp0 _);exact λhh=>c e h ((hst _ _ hne).1 hh)
 ·constructor
  ·rintro ⟨q,y,hq,h1,h2,h3⟩;by_cases h:pos k s.length d=q
   ·subst h;rw [vO hlt]at hq;cases hq;rw [acg h2.symm];exact h3.symm
   ·rw [sS h]at hq;rw [abj λhkk:k'=k=>hno v' ⟨q,y,hq,h1,h2.trans hkk,h3⟩];exact ⟨q,y,hq,h1,h2,h3⟩
  ·intro h;split at h
   ·rename_i hkk;exact ⟨_,_,vO hlt,rfl,hkk.symm,h.symm⟩
   ·obtain ⟨q,y,hq,h1,h2,h3⟩:=h;have:pos k s.length d≠q:=λh=>by subst h;rw [hx]at hq;cases hq;exact hf h1
    exact ⟨q,y,by rw [sS this];exact hq,h1,h2,h3⟩
def kD (s:List (Slot V)):Nat:=s.countP λx=>x.st==1
def used (s:List (Slot V)):Nat:=s.countP λx=>x.st != 0
theorem xw (p:Slot V->Bool):∀ (s:List (Slot V)) (i:Nat) (x y:Slot V),s[i]?=some x->(s.set i y).countP p+(if p x=true then 1 else 0)=s.countP p+(if p y=true then 1 else 0)
 |[],_,_,_,h=>by simp at h
 |a::s,0,x,y,h=>by
  obtain rfl:a=x:=by simpa using h
  rw [List.set_cons_zero,ap7,ap7];omega
 |a::s,i+1,x,y,h=>by
  rw [List.set_cons_succ,ap7,ap7];have:=xw p s i x y yP0;omega
theorem Yp (h:used s<s.length):∃ x∈s,x.st=0:=by
 apply apS;intro hn;have:used s=s.length:=by
  unfold used;rw [List.countP_eq_length];intro x hx;have:x.st≠0:=λh0=>hn ⟨x,hx,h0⟩;simpa using this
 omega
structure Tb (V:Type) where
 slots:List (Slot V)
 n:Nat
 gone:Nat
structure Tb.Ok (t:Tb V):Prop where
 good:Good t.slots
 n:t.n=kD t.slots
 gone:t.n+t.gone=used t.slots
 load:4*(t.n+t.gone)<=3*t.slots.length
 size:t.slots.length<=8+4*(t.n+t.gone)
theorem Tb.Ok.free {t:Tb V} (h:t.Ok):∃ x∈t.slots,x.st=0:=Yp (by have:=h.gone;have:=h.load;have:=h.good.nY;omega)
theorem Tb.Ok.ends {t:Tb V} (h:t.Ok) (k:Bs):∃ d,Ends t.slots k d:=XP h.good h.free
def Tb.Is (t:Tb V) (m:Bs->Option V):Prop:=∀ k v,Has t.slots k v↔m k=some v
def put (m:Bs->Option V) (k:Bs) (v:V):Bs->Option V:=λl=>if l=k then some v else m l
theorem ZN {t:Tb V}{m:Bs->Option V} (hm:t.Is m) (h:∀ k' v',Has s' k' v'↔if k'=k then v'=v else Has t.slots k' v') (n g:Nat):(⟨s',n,g⟩:Tb V).Is (put m k v):=λk' v'=>by
 rw [show (⟨s',n,g⟩:Tb V).slots=s' from rfl,h];unfold put;split
 ·exact ⟨λe=>by rw [e],λe=>(ai2 e).symm⟩
 ·exact hm k' v'
theorem ak5 {t:Tb V} (h:t.Ok) (he:Ends t.slots k d) (hx:t.slots[pos k t.slots.length d]?=some x) (hf:x.st=1) (v:V) :
  (⟨t.slots.set (pos k t.slots.length d) ⟨x.st,x.key,v⟩,t.n,t.gone⟩:Tb V).Ok:=by
 have h1:=xw (λx=>x.st==1) t.slots _ x ⟨x.st,x.key,v⟩ hx;have h2:=xw (λx=>x.st != 0) t.slots _ x ⟨x.st,x.key,v⟩ hx;refine ⟨(abu h.good he hx hf v).1,?_,?_,by simp only [ai3];exact h.load,by simp only [ai3];exact h.size⟩
 ·have:=h.n;unfold kD at *;simp only at *;omega
 ·have:=h.gone;unfold used at *;simp only at *;omega
theorem ak4 {t:Tb V} (h:t.Ok) (hl:4*(t.n+t.gone+1)<=3*t.slots.length) (he:Ends t.slots k d) (hx:t.slots[pos k t.slots.length d]?=some x) (hf:x.st≠1) (hk:k.length=32) (v:V) :
  (⟨t.slots.set (pos k t.slots.length d) ⟨1,k,v⟩,t.n+1,t.gone⟩:Tb V).Ok:=by
 have h0:=(Jo h.good he hx hf).1;have h1:=xw (λx=>x.st==1) t.slots _ x ⟨1,k,v⟩ hx;have h2:=xw (λx=>x.st != 0) t.slots _ x ⟨1,k,v⟩ hx;refine ⟨(Gi h.good he hx hf hk v).1,?_,?_,?_,?_⟩
 ·have:=h.n;unfold kD at *;simp [h0]at h1 ⊢;omega
 ·have:=h.gone;unfold used at *;simp [h0]at h2 ⊢;omega
 ·simp only [ai3];omega
 ·have:=h.size;simp only [ai3];omega
structure Half (old cur:List (Slot V)) (j:Nat):Prop where
 good:Good cur
 has:∀ k v,Has cur k v↔Has (old.take j) k v
 nf:kD cur=kD (old.take j)
 nu:used cur=kD (old.take j)
theorem ac0 (h:s[j]?=some x):Has (s.take (j+1)) k v↔Has (s.take j) k v\/(x.st=1/\x.key=k/\x.val=v):=by
 have hj:j<s.length:=(abm.1 h).1;have e:s.take (j+1)=s.take j++[x]:=by rw [aeK,h];rfl
 rw [e];unfold Has;constructor
 ·rintro ⟨i,y,hy,a,b,c⟩;by_cases hi:i<(s.take j).length
  ·rw [aej hi]at hy;exact .inl ⟨i,y,hy,a,b,c⟩
  ·rw [aeh oQ]at hy;cases hz:i-(s.take j).length with
   |zero=>rw [hz]at hy;cases hy;exact .inr ⟨a,b,c⟩
   |succ z=>rw [hz]at hy;simp at hy
 ·rintro (⟨i,y,hy,a,b,c⟩|⟨a,b,c⟩)
  ·exact ⟨i,y,by rw [aej (abm.1 hy).1];exact hy,a,b,c⟩
  ·exact ⟨(s.take j).length,x,by simp,a,b,c⟩
theorem LM (h:s[j]?=some x):kD (s.take (j+1))=kD (s.take j)+(if x.st=1 then 1 else 0):=by
 unfold kD;rw [aeK,h,List.countP_append];simp [ap7]
theorem ahH (s:List (Slot V)) (j:Nat):kD (s.take j)<=kD s:=by
 unfold kD;exact (List.take_sublist j s).countP_le
theorem Half.skip {old cur:List (Slot V)} (h:Half old cur j) (hx:old[j]?=some x) (hf:x.st≠1):Half old cur (j+1):=
 ⟨h.good,λk v=>by rw [ac0 hx,h.has];exact ⟨.inl,λq=>q.elim id λq=>absurd q.1 hf⟩,by rw [LM hx,abj hf];exact h.nf,by rw [LM hx,abj hf];exact h.nu⟩
theorem Half.fresh {old cur:List (Slot V)} (go:Good old) (h:Half old cur j) (hx:old[j]?=some x) (hf:x.st=1) (u:V):¬ Has cur x.key u:=by
 rw [h.has];rintro ⟨i,y,hy,a,b,c⟩;have hi:i<(old.take j).length:=(abm.1 hy).1;have hij:i<j:=by rw [ads]at hi;omega
 have hy':old[i]?=some y:=by rw [apC hij]at hy;exact hy
 have:=go.one hy' hx a hf b;omega
theorem Half.step {old cur:List (Slot V)} (go:Good old) (h:Half old cur j) (hx:old[j]?=some x) (hf:x.st=1) (he:Ends cur x.key d) :
  Half old (cur.set (pos x.key cur.length d) x) (j+1):=by
 obtain ⟨y,hy,hs⟩:=he.slot;have ZC:y.st≠1:=λh1=>h.fresh go hx hf y.val (Jp he hy h1).2;obtain ⟨h0,_⟩:=Jo h.good he hy ZC;obtain ⟨st,key,val⟩:=x;obtain rfl:st=1:=hf;obtain ⟨g,hh⟩:=Gi h.good he hy ZC (go.key _ (abA hx)) val;have h1:=xw (λx=>x.st==1) cur _ y ⟨1,key,val⟩ hy;have h2:=xw (λx=>x.st != 0) cur _ y ⟨1,key,val⟩ hy;refine ⟨g,λk v=>?_,?_,?_⟩
 ·rw [hh,ac0 hx];split
  ·rename_i hk;subst hk;constructor
   ·intro e;exact .inr ⟨rfl,rfl,e.symm⟩
   ·rintro (q|⟨_,_,e⟩)
    ·exact absurd ((h.has _ _).2 q) (h.fresh go hx rfl v)
    ·exact e.symm
  ·rename_i hk;rw [h.has];exact ⟨.inl,λq=>q.elim id λq=>absurd q.2.1.symm hk⟩
 ·rw [LM hx,acg rfl,<-h.nf];unfold kD at *;simp [h0]at h1 ⊢;omega
 ·rw [LM hx,acg rfl,<-h.nu];unfold used at *;simp [h0]at h2 ⊢;omega
theorem Half.done {old cur:List (Slot V)} (h:Half old cur old.length):Good cur/\(∀ k v,Has cur k v↔Has old k v)/\kD cur=kD old/\used cur=kD old:=by
 have h1:=h.has;have h2:=h.nf;have h3:=h.nu;rw [aeo]at h1 h2 h3;exact ⟨h.good,h1,h2,h3⟩
end
end Go.Tab
namespace Go.aj
theorem QZ (l:Bs) (c:UInt8):num (l++[c])=num l+c.toNat*256^l.length:=by
 induction l with
 |nil=>show c.toNat+256*0=0+c.toNat*1;omega
 |cons d l ih=>
  show d.toNat+256*num (l++[c])=d.toNat+256*num l+c.toNat*256^(l.length+1);rw [ih,Nat.pow_succ,Nat.mul_add,<-Nat.mul_assoc,aiv 256 (c.toNat),Nat.mul_assoc,aiv 256 (256^l.length),<-apB]
end Go.aj
namespace Go.Proofs.Y
open Go.ay
theorem KC (l:Bs) (c:UInt8) (k:Nat) (hl:l.length=k) (hk:k<7):bits .or .u64 ((aj.num l:Nat):Int) ((c.toNat:Int)*((256^k:Nat):Int))=((aj.num (l++[c]):Nat):Int):=by
 subst hl;have h1:=aj.yJ l;have h2:=c.toNat_lt;have h3:256^l.length<=256^6:=ao7 aN oQ;have h4:c.toNat*256^l.length<=255*256^6:=an9 oQ h3;have h5:(256:Nat)^6=281474976710656:=by decide
 have e:(c.toNat:Int)*((256^l.length:Nat):Int)=((c.toNat*256^l.length:Nat):Int):=by rw [aqe]
 rw [e,u64_or_nat _ _ oQ oQ,aj.QZ]
 congr 1
 have hp:(256:Nat)^l.length=2^(8*l.length):=by rw [Nat.pow_mul]
 rw [hp]at h1 ⊢;have:=Nat.two_pow_add_eq_or_of_lt h1 c.toNat;rw [Nat.or_comm,aiv c.toNat,<-this,apW]
theorem abG {k:Nat}{l:Bs}{a:Option Addr}{n c:Nat} (h:bF 1 (.slice a n c) (aA l) w):bF 1 (.slice a (min n k) c) (aA (l.take k)) w:=by
 obtain ⟨a',n',c',he,hl,hx⟩:=h;cases he;rw [aX,aes]at hl;refine ⟨a,_,c,rfl,by rw [aX,ads];omega,λj y hj=>?_⟩;have hj':(aA l)[j]?=some y:=by
  unfold aA at hj ⊢;rw [aoU,aeY]at hj;split at hj
  ·exact hj
  ·cases hj
 exact hx j y hj'
theorem ahL (c0 c1 c2 c3:UInt8) (a:Option Addr) (c:Nat) (h:bF 1 (.slice a 4 c) (aA [c0,c1,c2,c3]) w) :
  Calls prog 144 #[.slice a 4 c] w (aP λv w'=>v=.tuple #[.int .u64 (aj.num [c0,c1,c2,c3]:Nat),.bool true]/\w=w'):=by
 obtain ⟨bk,off,rfl,hc⟩:=pI h (i:=0) rfl;have e0:w.cell? ⟨bk,off,none⟩=some (.int .u8 c0.toNat):=hc 0 _ rfl;have e1:w.cell? ⟨bk,off+1,none⟩=some (.int .u8 c1.toNat):=hc 1 _ rfl;have e2:w.cell? ⟨bk,off+2,none⟩=some (.int .u8 c2.toNat):=hc 2 _ rfl;have e3:w.cell? ⟨bk,off+3,none⟩=some (.int .u8 c3.toNat):=hc 3 _ rfl;have b0:=c0.toNat_lt;have b1:=c1.toNat_lt;have b2:=c2.toNat_lt;have b3:=c3.toNat_lt;clear hc h;go_enter func144,ntmps144;go_wp2_with fail
 go_loopg [17,4] 4 (λg iq xq wr=>∃ i:Nat,g=4-i/\i<=4/\iq=.int .i64 i/\xq=.int .u64 (aj.num ([c0,c1,c2,c3].take i):Nat)/\wr=w)
 case atStart=>exact ⟨0,rfl,by omega,rfl,rfl,rfl⟩
 case round=>
  obtain ⟨i,rfl,hi,rfl,rfl,rfl⟩:=hrel;by_cases h4:i<4
  ·have h0:i=0\/i=1\/i=2\/i=3:=by omega
   clear hi h4;rcases h0 with rfl|rfl|rfl|rfl
   ·have hq:bits .or .u64 ((aj.num []:Nat):Int) (c0.toNat:Int)=((aj.num [c0]:Nat):Int):=by
     have:=KC [] c0 0 rfl aN;simpa using this
    go_wp2_with fail
    go_roundg (4-1)
    case measure=>decide
    case rel=>exact ⟨1,rfl,by decide,by first|rfl|go_num,rfl,rfl⟩
   ·have hq:bits .or .u64 ((aj.num [c0]:Nat):Int) ((c1.toNat:Int)*256)=((aj.num [c0,c1]:Nat):Int):=KC [c0] c1 1 rfl aN;go_wp2_with fail
    go_roundg (4-2)
    case measure=>decide
    case rel=>exact ⟨2,rfl,by decide,by first|rfl|go_num,rfl,rfl⟩
   ·have hq:bits .or .u64 ((aj.num [c0,c1]:Nat):Int) ((c2.toNat:Int)*65536)=((aj.num [c0,c1,c2]:Nat):Int):=KC [c0,c1] c2 2 rfl aN;go_wp2_with fail
    go_roundg (4-3)
    case measure=>decide
    case rel=>exact ⟨3,rfl,by decide,by first|rfl|go_num,rfl,rfl⟩
   ·have hq:bits .or .u64 ((aj.num [c0,c1,c2]:Nat):Int) ((c3.toNat:Int)*16777216)=((aj.num [c0,c1,c2,c3]:Nat):Int):=KC [c0,c1,c2] c3 3 rfl aN;go_wp2_with fail
    go_roundg (4-4)
    case measure=>decide
    case rel=>exact ⟨4,rfl,by decide,by first|rfl|go_num,rfl,rfl⟩
  ·obtain rfl:i=4:=by omega
   go_wp2
   go_ret2
   exact ⟨_,rfl,rfl,rfl⟩
theorem four {l:Bs} (h:l.length=4):∃ c0 c1 c2 c3,l=[c0,c1,c2,c3]:=by
 match l,h with
 |[c0,c1,c2,c3],_=>exact ⟨c0,c1,c2,c3,rfl⟩
theorem Yr (l:Bs) (hl:l.length=4) (a:Option Addr) (c:Nat) (h:bF 1 (.slice a 4 c) (aA l) w) :
  Calls prog 144 #[.slice a 4 c] w (aP λv w'=>v=.tuple #[.int .u64 (aj.num l:Nat),.bool true]/\w=w'):=by
 obtain ⟨c0,c1,c2,c3,rfl⟩:=four hl;exact ahL c0 c1 c2 c3 a c h
theorem aaW (l:Bs) (hl:4<=l.length) (a:Option Addr) (n c:Nat) (hn:n<=c) (hc:c<=9223372036854775807) (h:bF 1 (.slice a n c) (aA l) w) :
  Calls prog 93 #[.slice a n c] w (aP λv w'=>v=.int .u32 (aj.num (l.take 4):Nat)/\w=w'):=by
 have hln:n=l.length:=by
  obtain ⟨_,_,_,he,hl',_⟩:=h;cases he;rw [aX,aes]at hl';exact hl'.symm
 have h4:=abG (k:=4) h;rw [show min n 4=4 by omega]at h4;have hg:=Yr (l.take 4) (by rw [ads];omega) a c h4;have hlt:=aj.yJ (l.take 4);rw [ads,ap1 hl]at hlt;have hb:(aj.num (l.take 4):Int)<4294967296:=by omega
 have hc4:(4:Int)<=(c:Int):=by omega
 generalize aj.num (l.take 4)=N at *
 clear hlt hln h4 h hl;have hw:IntKind.u32.wrap (N:Int)=(N:Int):=by rw [IntKind.wrap_u32];omega
 go_enter func93,ntmps93;go_wp2_with (go_at_call 144;refine hg.mono ?_;rintro e w1 ⟨v,rfl,rfl,rfl⟩);go_ret;exact ⟨_,rfl,rfl,rfl⟩
theorem ahp (t:UInt8) (n:Nat) (hn:n<4294967296) (w:World) :
  Calls prog 94 #[.int .u8 t.toNat,.int .i64 n] w (aP λv w'=>v=.bool (aj.fits t n)/\w=w'):=by
 have htl:=t.toNat_lt;by_cases h0:t=0
 ·subst h0;by_cases h1:41<=n
  ·by_cases h2:n<=16425
   ·have Hf:=uQ (show aj.fits 0 n=true by unfold aj.fits;rw [acg rfl];exact aeb ⟨h1,h2⟩);have c1:(41:Int)<=(n:Int):=by omega
    have c2:(n:Int)<=16425:=by omega
    clear h1 h2;go_enter func94,ntmps94;go_wp2;go_ret;rw [Hf.o];exact ⟨_,rfl,rfl,rfl⟩
   ·have Hf:=uQ (show aj.fits 0 n=false by unfold aj.fits;rw [acg rfl];exact ad2 oQ);have c1:(41:Int)<=(n:Int):=by omega
    have c2:decide ((n:Int)<=16425)=false:=ad2 oQ;clear h1 h2;go_enter func94,ntmps94;go_wp2;go_ret;rw [Hf.o];exact ⟨_,rfl,rfl,rfl⟩
  ·have Hf:=uQ (show aj.fits 0 n=false by unfold aj.fits;rw [acg rfl];exact ad2 oQ);have c1:decide ((41:Int)<=(n:Int))=false:=ad2 oQ;clear h1;go_enter func94,ntmps94;go_wp2;go_ret;rw [Hf.o];exact ⟨_,rfl,rfl,rfl⟩
 by_cases h1:t=1
 ·subst h1;have Hf:=uQ (show aj.fits 1 n=decide (n=41) by unfold aj.fits;rw [abj aN,acg rfl]);have He:=uQ (show ((n:Int)==41)=decide (n=41) by rw [aol,ai5,adY];omega);go_enter func94,ntmps94;go_wp2;go_ret;rw [Hf.o,<-He.o];exact ⟨_,rfl,rfl,rfl⟩
 by_cases h2:t=2
 ·subst h2;have Hf:=uQ (show aj.fits 2 n=decide (n=9) by unfold aj.fits;rw [abj aN,abj aN,acg rfl]);have He:=uQ (show ((n:Int)==9)=decide (n=9) by rw [aol,ai5,adY];omega);go_enter func94,ntmps94;go_wp2;go_ret;rw [Hf.o,<-He.o];exact ⟨_,rfl,rfl,rfl⟩
 ·have Hf:=uQ (show aj.fits t n=false by unfold aj.fits;rw [abj h0,abj h1,abj h2]);have g0:((t.toNat:Int)==0)=false:=by rw [adX];intro h;exact h0 (UInt8.toNat_inj.1 (by rw [show (0:UInt8).toNat=0 from rfl];omega))
  have g1:((t.toNat:Int)==1)=false:=by rw [adX];intro h;exact h1 (UInt8.toNat_inj.1 (by rw [show (1:UInt8).toNat=1 from rfl];omega))
  have g2:((t.toNat:Int)==2)=false:=by rw [adX];intro h;exact h2 (UInt8.toNat_inj.1 (by rw [show (2:UInt8).toNat=2 from rfl];omega))
  clear h0 h1 h2;generalize t.toNat=T at *
  go_enter func94,ntmps94;go_wp2;go_ret;rw [Hf.o];exact ⟨_,rfl,rfl,rfl⟩
section
variable {pos:String}{x:Operand}{e:aj.aI}
theorem amc (tag:Int) (w:World):(Instr.build 52 #[(0,.int .i64 tag)]).run prog w=.ok (.agg (dQ ⟨tag,aj.zero32,[]⟩ (.slice none 0 0))) w:=by
 have hz:(dQ aj.zeroE (.slice none 0 0)).size=34:=fF _ _ rfl
 have h:=apP (P:=prog) [(0,.int .i64 tag)] KD BD (by
  intro p hp;rw [adZ]at hp;subst hp;have hzz:xE.cells.size=34:=hz;rw [hzz];exact ⟨0,rfl,by show 0+1<=34;omega⟩) w
 exact h
theorem adA {tag:Int} (hx:a.eval x=.int .i64 tag) (h:wpList prog ops Q rest (a.put dst (.agg (dQ ⟨tag,aj.zero32,[]⟩ (.slice none 0 0)))) w):wpList prog ops Q (⟨dst,.build 52 #[(0,x)],t,pos,after,none⟩::rest) a w:=
 aeV rfl λ_ hK=>by
  unfold Oper.wp execOp;simp only [aeX,ad7,aeF,hx,ad1,amc,adu,aek];exact hK _ _ h
theorem zn (h:wpList prog ops Q rest (a.put dst (.agg (dQ aj.zeroE (.slice none 0 0)))) w):wpList prog ops Q (⟨dst,.build 52 #[],t,pos,after,none⟩::rest) a w:=
 aeV rfl λ_ hK=>by
  unfold Oper.wp execOp;simp only [aeX,aeF,ad1,amE,adu,aek];exact hK _ _ h
theorem Wv (h:Stop (wpList prog ops Q (⟨dst,.build 52 #[(0,x)],t,pos,after,none⟩::rest) a w)):wpList prog ops Q (⟨dst,.build 52 #[(0,x)],t,pos,after,none⟩::rest) a w:=h.o
theorem xZ (h:Stop (wpList prog ops Q (⟨dst,.build 52 #[],t,pos,after,none⟩::rest) a w)):wpList prog ops Q (⟨dst,.build 52 #[],t,pos,after,none⟩::rest) a w:=h.o
theorem aow {P:Program}{ty:TypeId}{z:Operand}{vx vy vz:Value} (hx:a.eval x=vx) (hy:a.eval y=vy) (hz:a.eval z=vz) (hr:∀ w,(Instr.sliceAt ty vx (some vy) (some vz) none).run P w=.ok v w)
  (h:wpList P ops Q rest (a.put dst v) w):wpList P ops Q (⟨dst,.slice ty x (some y) (some z) none,t,pos,after,none⟩::rest) a w:=
 aeV rfl λ_ hK=>by
  unfold Oper.wp execOp;simp only [hx,hy,hz,afW,aoC,ad1,hr,adu,aek];exact hK _ _ h
theorem afu {P:Program}{ty:TypeId}{z:Operand} (h:Stop (wpList P ops Q (⟨dst,.slice ty x (some y) (some z) none,t,pos,after,none⟩::rest) a w)):wpList P ops Q (⟨dst,.slice ty x (some y) (some z) none,t,pos,after,none⟩::rest) a w:=h.o
theorem al9 (ad:Addr) (c:Nat) (w:World):(Instr.arrayAt 50 (.slice (some ad) 32 c)).run prog w=.ok (.pointer (some ad)) w:=by
 simp [Instr.arrayAt,afM (P:=prog) underlying50]
theorem alc {e:aj.aI}{dv:Value} (hk:e.key.length=32) (key:Bs) (hk2:key.length=32):eU (dQ e dv) 1 (aA key)=dQ ⟨e.tag,key,e.data⟩ dv:=by
 apply ql;have hz:=fF e dv hk;have h1:(aA key).length=32:=by rw [aX,hk2]
 have h2:(aA e.key).length=32:=by rw [aX,hk]
 rw [l9 _ _ _ oQ];unfold dQ lZ;rw [ad6,ad6,h1,show 1+32=32+1 by omega,ap4,List.take_succ_cons,aeO,aoa oQ,aew oQ];simp
theorem alb {e:aj.aI}{dv:Value} (hk:e.key.length=32) (data:Bs) (XD:Value):eU (dQ e dv) 33 [XD]=dQ ⟨e.tag,e.key,data⟩ XD:=by
 apply ql;have hz:=fF e dv hk;have h2:(aA e.key).length=32:=by rw [aX,hk]
 rw [l9 _ _ _ yW0];unfold dQ lZ;rw [ad6,ad6,aer,show 33+1=33+1 from rfl,ap4,List.take_succ_cons,aeC oQ,ad9 oQ,aew yW0];simp
theorem aiV:(prog.info? 50).map (·.size)=some 32:=by kernel_rfl
theorem aiX:(prog.info? 39).map (·.size)=some 1:=by kernel_rfl
theorem aoy {dv:Value}{key:Bs} (hs:Sat w0 w L) (hx:a.eval x=.pointer (some ⟨b,1,none⟩)) (hy:a.eval y=.agg (aA key).toArray) (hk:e.key.length=32) (hk2:key.length=32) (u:pW (pt b (.cells (dQ e dv) T (0,0))) (pt b (.cells (dQ ⟨e.tag,key,e.data⟩ dv) T (0,0))) L L')
  (hK:∀ w',Sat w0 w' L'->wpList prog ops Q rest (a.put dst undef) w'):wpList prog ops Q (⟨dst,.store 50 x y,t,pos,after,none⟩::rest) a w:=by
 obtain ⟨R',h2,h3⟩:=u;have hz:=fF e dv hk;have hb:(aA key).toArray.size=32:=by simp [aA,hk2]
 refine GY (w0:=w0) rfl 50 x y rfl 1 (.agg (aA key).toArray) hx hy (show 1+(aA key).toArray.size<=(dQ e dv).size by omega) (show _=some (aA key).toArray.size by rw [hb];exact aiV) ?_ (hs.perm h2) λw' hS=>hK w' ?_
 ·show (aA key).toArray.all _=true;rw [<-Array.all_toList];exact ae0.2 (wG _)
 ·have he:eU (dQ e dv) 1 (Value.agg (aA key).toArray).cells.toList=dQ ⟨e.tag,key,e.data⟩ dv:=alc hk key hk2;rw [he]at hS;exact hS.perm h3.symm
theorem aox {dv:Value}{data:Bs} (hs:Sat w0 w L) (hx:a.eval x=.pointer (some ⟨b,33,none⟩)) (hy:a.eval y=.slice da dn dc) (hk:e.key.length=32) (u:pW (pt b (.cells (dQ e dv) T (0,0))) (pt b (.cells (dQ ⟨e.tag,e.key,data⟩ (.slice da dn dc)) T (0,0))) L L')
  (hK:∀ w',Sat w0 w' L'->wpList prog ops Q rest (a.put dst undef) w'):wpList prog ops Q (⟨dst,.store 39 x y,t,pos,after,none⟩::rest) a w:=by
 obtain ⟨R',h2,h3⟩:=u;have hz:=fF e dv hk;refine GY (w0:=w0) rfl 39 x y rfl 33 (.slice da dn dc) hx hy (show 33+1<=(dQ e dv).size by omega) aiX (by simp [Value.cells,Value.oneCell']) (hs.perm h2) λw' hS=>hK w' ?_;have he:eU (dQ e dv) 33 (Value.slice da dn dc).cells.toList=dQ ⟨e.tag,e.key,data⟩ (.slice da dn dc):=alb hk data _;rw [he]at hS;exact hS.perm h3.symm
theorem Dw {fn:Func}{p u q:Tmp}{tmps:Array Value} (hf:fn.results=#[.cell p 52,.tmp u,.tmp q]) (hs:Sat w0 w L) (hp:tmps.getD p undef=.pointer (some ⟨b,0,none⟩)) (k:Pick (pt b (.cells (dQ e (.slice da dn dc)) T (0,0))) L R) (hk:e.key.length=32) :
  (results fn tmps).run prog w=.ok (.tuple #[.agg (dQ e (.slice da dn dc)),tmps.getD u undef,tmps.getD q undef]) w:=by
 have hl:=run_loadVar_row (P:=prog) w b T 52 (dQ e (.slice da dn dc)) (0,0) _ (hs.pick k).at underlying52 ah (by rw [fF e _ hk];exact CQ);have hp':tmps[p]?.getD undef=.pointer (some ⟨b,0,none⟩):=by simpa using hp
 simp [results,hf,hp',asAddr,hl,Result.andThen]
end
theorem abH {l:Bs}{bk off n c:Nat} (h:bF 1 (.slice (some ⟨bk,off,none⟩) n c) (aA l) w) (i j c':Nat) (hij:i<=j) (hj:j<=l.length):bF 1 (.slice (some ⟨bk,off+i,none⟩) (j-i) c') (aA ((l.take j).drop i)) w:=by
 obtain ⟨a',n',c'',he,hl,hx⟩:=h;cases he;refine ⟨_,_,_,rfl,by rw [aX,ad3,ads];omega,λk y hk=>⟨_,rfl,?_⟩⟩;have hk':(aA l)[i+k]?=some y:=by
  unfold aA at hk ⊢;rw [List.map_drop,aoU,ao5,aeY]at hk;split at hk
  ·exact hk
  ·cases hk
 obtain ⟨b',hb',hc⟩:=hx _ _ hk';cases hb';rw [Addr.add_mid]at hc ⊢;rw [apB];exact hc
theorem Yo (l:Bs) (hr:Ro w0 F (bF 1 bv (aA l))) (hcap:lY bv) (hH:Ro w0 F Half) (hl:l.length<=1099511627776) (h:Sat w0 w F) :
  Calls prog 50 #[bv] w (aP λv w'=>∃ da dc,v=.tuple #[.agg (dQ (aj.read l).1 (.slice da (aj.read l).1.data.length dc)),.int .i64 (aj.read l).2.1,errno (aj.read l).2.2]/\Sat w0 w' (bQ (.slice da (aj.read l).1.data.length dc) (aj.read l).1.data::F)):=by
 obtain ⟨ba,bn,bc,rfl,hbn,hbc⟩:=hcap;have hln:bn=l.length:=by
  obtain ⟨_,_,_,he,hl',_⟩:=hr w h;cases he;rw [aX,aes]at hl';exact hl'.symm
 subst hln;by_cases h9:l.length<9
 ·have Hf:=uQ (show aj.read l=(aj.zeroE,0,3) by unfold aj.read;rw [acg h9]);have c1:(l.length:Int)<9:=by omega
  clear hr hH h9 hl;go_enter func50,ntmps50;go_wp2_with (first|((with_reducible refine tC ⟨?_⟩);refine uM aQ ?_;intro bE wE hE)|((with_reducible refine xZ ⟨?_⟩);refine zn ?_)|((with_reducible refine qE ⟨?_⟩);first|(refine kM aQ ah ah yL0 fV yD0 ?_;intro wS hS)|(refine kM (e:=aj.zeroE) (da:=none) (dn:=0) (dc:=0) aQ ah ah rfl fV yD0 ?_;intro wS hS)));rw [Hf.o];refine ⟨rfl,_,Dw rfl aQ ah bJ rfl,_,rfl,none,0,rfl,Sat.gB.2 (Sat.sb hS)⟩
 obtain ⟨bk,off,rfl,hcell⟩:∃ bk off,ba=some ⟨bk,off,none⟩/\True:=by
  have hx:(aA l)[0]?=some (.int .u8 (l[0]'oQ).toNat):=by
   unfold aA;rw [adW,aay oQ];rfl
  obtain ⟨bk,off,hb,_⟩:=pI (hr w h) hx;exact ⟨bk,off,hb,trivial⟩
 clear hcell;have hrd:=hr w h;have zH:=uQ (show ∀ (i j:Nat),i<=j->j<=l.length->∀ w,Sat w0 w F->bF 1 (.slice (some ⟨bk,off+i,none⟩) (j-i) (bc-i)) (aA ((l.take j).drop i)) w from λi j h1 h2 w hw=>abH (hr w hw) i j (bc-i) h1 h2)
 have aeD:=uQ (show ∀ w,Sat w0 w F->Calls prog 93 #[.slice (some ⟨bk,off+4,none⟩) (l.length-4) (bc-4)] w (aP λv w'=>v=.int .u32 (aj.num ((l.drop 4).take 4):Nat)/\w=w') from λw hw=>aaW (l.drop 4) yT0 _ (l.length-4) (bc-4) oQ oQ (by
  have:=zH.o 4 l.length oQ (abl _) w hw;rw [aeo]at this;exact this))
 have aeE:=uQ (show ∀ w,Sat w0 w F->Calls prog 93 #[.slice (some ⟨bk,off,none⟩) l.length bc] w (aP λv w'=>v=.int .u32 (aj.num (l.take 4):Nat)/\w=w') from λw hw=>aaW l oQ _ l.length bc hbn hbc (hr w hw))
 have pR:=uQ (show aj.read l=if aj.fits (l.getD 8 0) (aj.num ((l.drop 4).take 4))=false then (aj.zeroE,0,4)
  else if l.length<aj.num ((l.drop 4).take 4) then (aj.zeroE,0,3)
  else if aj.crc ((l.take (aj.num ((l.drop 4).take 4))).drop 4)≠aj.num (l.take 4) then (aj.zeroE,0,13)
  else if 41<=aj.num ((l.drop 4).take 4) then (⟨(l.getD 8 0).toNat,(l.drop 9).take 32,(l.take (aj.num ((l.drop 4).take 4))).drop 41⟩,aj.num ((l.drop 4).take 4),0)
  else (⟨(l.getD 8 0).toNat,aj.zero32,[]⟩,aj.num ((l.drop 4).take 4),0) by unfold aj.read;rw [abj h9])
 have hN:aj.num ((l.drop 4).take 4)<4294967296:=by
  have:=aj.yJ ((l.drop 4).take 4);rw [ads,ad3]at this;have h4:min 4 (l.length-4)=4:=by omega
  rw [h4]at this;omega
 generalize hNN:aj.num ((l.drop 4).take 4)=N at *
 have hfits:=λw=>ahp (l.getD 8 0) N hN w;have hfg:aj.fits (l.getD 8 0) N=true->9<=N:=by
  unfold aj.fits;intro hh;split at hh
  ·have:=ajl hh;omega
  ·split at hh
   ·have:=ajl hh;omega
   ·split at hh
    ·have:=ajl hh;omega
    ·cases hh
 have hc8:∀ w,Sat w0 w F->w.cell? ⟨bk,off+8,none⟩=some (.int .u8 (l.getD 8 0).toNat):=λw hw=>by
  have hx:(aA l)[8]?=some (.int .u8 (l.getD 8 0).toNat):=by
   unfold aA;rw [adW,adT,aay oQ];rfl
  obtain ⟨Oy,off',hb,hc⟩:=pI (hr w hw) hx;cases hb;exact hc _ _ hx
 have Ih:=uQ hc8;have Hr:=uQ hr;have HH:=uQ hH;have Hl:=uQ hl;have Hfg:=uQ hfg;have aen:=uQ hfits;have c1:¬ (l.length:Int)<9:=by omega
 have c2:¬ bc=4:=by omega
 have c3:(4:Int)<=(l.length:Int):=by omega
 have c4:(l.length:Int)<=(bc:Int):=by omega
 have c5:(8:Int)<(l.length:Int):=by omega
 have xI:=uQ (show l.length<=bc/\bc<=9223372036854775807/\9<=l.length/\N<4294967296 from ⟨hbn,hbc,by omega,hN⟩);have hcv:IntKind.i64.wrap (N:Int)=(N:Int):=by rw [aeU];omega
 clear hrd hNN hc8 hr hH hl h9 hbn hbc hfg hfits hN;generalize l.getD 8 0=tg at *
 have Zz:=tg.toNat_lt;have hct:IntKind.i64.wrap (tg.toNat:Int)=(tg.toNat:Int):=by rw [aeU];omega
 have htb:(tg.toNat:Int)<256:=by omega
 go_enter func50,ntmps50;go_wp2_with ((with_reducible refine tC ⟨?_⟩);refine uM aQ ?_;intro bE wE hE);refine (aeD.o _ hE.drop).mono ?_;rintro ee w2 ⟨v,rfl,rfl,rfl⟩;have e8:=Ih.o _ hE.drop;go_wp2_with fail;refine (aen.o _).mono ?_;rintro ee w2 ⟨v,rfl,rfl,rfl⟩;cases hft:aj.fits tg N
 ·have Hf:=uQ (pR.o.trans (acg hft));clear hft;go_wp2_with (first|((with_reducible refine xZ ⟨?_⟩);refine zn ?_)|((with_reducible refine qE ⟨?_⟩);first|(refine kM aQ ah ah yL0 fV yD0 ?_;intro wS hS)|(refine kM (e:=aj.zeroE) (da:=none) (dn:=0) (dc:=0) aQ ah ah rfl fV yD0 ?_;intro wS hS)));rw [Hf.o];refine ⟨rfl,_,Dw rfl aQ ah bJ rfl,_,rfl,none,0,rfl,Sat.gB.2 (Sat.sb hS)⟩
 have Hf:=uQ (pR.o.trans (abj (by rw [hft];decide)));have YL:=Hfg.o hft;clear hft;by_cases JH:l.length<N
 ·have Eh:=uQ (Hf.o.trans (acg JH));have c6:(l.length:Int)<(N:Int):=by omega
  clear JH YL;go_wp2_with (first|((with_reducible refine xZ ⟨?_⟩);refine zn ?_)|((with_reducible refine qE ⟨?_⟩);first|(refine kM aQ ah ah yL0 fV yD0 ?_;intro wS hS)|(refine kM (e:=aj.zeroE) (da:=none) (dn:=0) (dc:=0) aQ ah ah rfl fV yD0 ?_;intro wS hS)));rw [Eh.o];refine ⟨rfl,_,Dw rfl aQ ah bJ rfl,_,rfl,none,0,rfl,Sat.gB.2 (Sat.sb hS)⟩
 have Eh:=uQ (Hf.o.trans (abj JH));clear Hf pR;have c6:¬ (l.length:Int)<(N:Int):=by omega
 have c7:(4:Int)<=(N:Int):=by omega
 have c8:(N:Int)<=(bc:Int):=by omega
 have zA:=uQ (show N<=l.length/\9<=N by omega);clear JH YL;go_wp2_with fail;refine (OJ ((l.take N).drop 4) (Ro.os HH.o) (λw hw=>zH.o 4 N (by have:=zA.o;omega) zA.o.1 w (hw.sb)) hE (by rw [ad3,ads];have:=Hl.o;omega)).mono ?_;rintro ee w2 ⟨v,rfl,rfl,rfl⟩;go_wp2_with fail;refine (aeE.o _ hE.drop).mono ?_;rintro ee w2 ⟨v,rfl,rfl,rfl⟩;generalize aj.crc ((l.take N).drop 4)=A at *
 generalize aj.num (l.take 4)=B at *
 by_cases hAB:A=B;rotate_left
 ·have Ip:=uQ (Eh.o.trans (acg hAB));have c9:((A:Int)==(B:Int))=false:=by rw [adX];omega
  clear hAB;go_wp2_with (first|((with_reducible refine xZ ⟨?_⟩);refine zn ?_)|((with_reducible refine qE ⟨?_⟩);first|(refine kM aQ ah ah yL0 fV yD0 ?_;intro wS hS)|(refine kM (e:=aj.zeroE) (da:=none) (dn:=0) (dc:=0) aQ ah ah rfl fV yD0 ?_;intro wS hS)));rw [Ip.o];refine ⟨rfl,_,Dw rfl aQ ah bJ rfl,_,rfl,none,0,rfl,Sat.gB.2 (Sat.sb hS)⟩
 subst hAB;have Ip:=uQ (Eh.o.trans (abj (λh=>h rfl)));clear Eh;by_cases qH:41<=N;rotate_left
 ·have Nj:=uQ (Ip.o.trans (abj qH));have c9:¬ (41:Int)<=(N:Int):=by omega
  clear qH;go_wp2_with (first|((with_reducible refine Wv ⟨?_⟩);refine adA ah ?_)|((with_reducible refine tC ⟨?_⟩);refine uM aQ ?_;intro bE wE hE)|((with_reducible refine qE ⟨?_⟩);first|(refine kM aQ ah ah yL0 fV yD0 ?_;intro wS hS)|(refine kM (e:=aj.zeroE) (da:=none) (dn:=0) (dc:=0) aQ ah ah rfl fV yD0 ?_;intro wS hS))|((with_reducible refine EK ⟨?_⟩);refine GV aQ ah bJ yL0 ?_));rw [Nj.o];simp only [aeL];refine ⟨rfl,_,Dw rfl aQ ah bJ rfl,_,rfl,none,0,rfl,Sat.gB.2 (Sat.sb hS)⟩
 have Nj:=uQ (Ip.o.trans (acg qH));have mG:=uQ (show ((l.drop 9).take 32).length=32 by rw [ads,ad3];have:=zA.o;omega);have Iy:=uQ (show (aA ((l.drop 9).take 32)).length=32 by rw [aX];exact mG.o)
 have aeJ:=uQ (show ∀ w,Sat w0 w F->w.rangeAt bk (off+9) (aA ((l.drop 9).take 32)) from λw hw=>by
  intro j y hj;have hsb:=zH.o 9 41 aN (by have:=zA.o;omega) w hw;have e:(l.take 41).drop 9=(l.drop 9).take 32:=by rw [List.drop_take]
  rw [e]at hsb;obtain ⟨b',o',hb,hc⟩:=pI hsb hj;cases hb;exact hc _ _ hj)
 have c9:(41:Int)<=(N:Int):=by omega
 have c10:¬ bc=9:=by have:=zA.o;have:=xI.o;omega
 have c11:(41:Int)<=(bc:Int):=by omega
 obtain ⟨ad,had,hsl⟩:∃ ad:Addr,(41<N->ad=⟨bk,off+41,none⟩)/\∀ w,(Instr.sliceAt 39 (.slice (some ⟨bk,off,none⟩) l.length bc) (some (.int .i64 41)) (some (.int .i64 N)) none).run prog w=.ok (.slice (some ad) (N-41) (bc-41)) w:=by
  by_cases hce:bc=41
  ·refine ⟨⟨bk,off,none⟩,λhh=>by have:=zA.o;have:=xI.o;omega,λw=>?_⟩;have c12:(N:Int)<=41:=by omega
   have c13:¬ (41:Int)<(N:Int):=by omega
   go_simp
  ·refine ⟨⟨bk,off+41,none⟩,λ_=>rfl,λw=>?_⟩;go_simp
 have Had:=uQ had
 have aei:=uQ (show ∀ w,Sat w0 w F->bF 1 (.slice (some ad) (N-41) (bc-41)) (aA ((l.take N).drop 41)) w from λw hw=>by
  by_cases h2:41<N
  ·rw [Had.o h2];exact zH.o 41 N oQ zA.o.1 w hw
  ·have:(l.take N).drop 41=[]:=aew (by rw [ads];omega);rw [this,show N-41=0 by omega];exact ⟨_,0,_,rfl,rfl,by simp [aA]⟩)
 clear qH had;have hat:=λw=>al9 ⟨bk,off+9,none⟩ (bc-9) w
 go_wp2_with (first
  |((with_reducible refine Wv ⟨?_⟩);refine adA ah ?_)|((with_reducible refine tC ⟨?_⟩);refine uM aQ ?_;intro bE wE hE)|((with_reducible refine qE ⟨?_⟩);first|(refine kM aQ ah ah yL0 fV yD0 ?_;intro wS hS)|(refine kM (e:=aj.zeroE) (da:=none) (dn:=0) (dc:=0) aQ ah ah rfl fV yD0 ?_;intro wS hS))
  |((with_reducible refine bP ⟨?_⟩);refine wpList_load_mid ah 50 _ ah bk (off+9) ah (aA ((l.drop 9).take 32)) _ (aeJ.o _ (Sat.sb aQ)) underlying50 rfl (by rw [Iy.o];kernel_rfl) ?_)
  |((with_reducible refine dh ⟨?_⟩);refine aoy (key:=(l.drop 9).take 32) aQ ah ah rfl mG.o fV ?_;intro wK hK)
  |((with_reducible refine afu ⟨?_⟩);refine aow ah ah ah hsl ?_))
 refine (wI hK (aei.o _ (hK.sb)) (by rw [ad3,ads];have:=Hl.o;omega)).mono ?_;rintro ee w3 ⟨v,rfl,hS3,ca,cn,cc,rfl⟩;have hcn:cn=((l.take N).drop 41).length:=by
  obtain ⟨_,_,_,he,hl',_⟩:=Sat.rd hS3;cases he;rw [aX,aes]at hl';exact hl'.symm
 subst hcn;have Vf:=mG.o;generalize (l.drop 9).take 32=key at *
 generalize (l.take N).drop 41=data at *
 go_wp2_with (first
  |((with_reducible refine dh ⟨?_⟩);refine aox (e:=⟨(tg.toNat:Int),key,[]⟩) (data:=data) aQ ah ah Vf fV ?_;intro wD hD)
  |((with_reducible refine EK ⟨?_⟩);refine GV aQ ah bJ yL0 ?_)|((with_reducible refine qE ⟨?_⟩);first|(refine kM aQ ah ah yL0 fV yD0 ?_;intro wS hS)|(refine kM (e:=aj.zeroE) (da:=none) (dn:=0) (dc:=0) aQ ah ah rfl fV yD0 ?_;intro wS hS)))
 rw [Nj.o];simp only;refine ⟨rfl,_,Dw rfl aQ ah bJ Vf,_,rfl,ca,cc,rfl,Sat.sb hS⟩
end Go.Proofs.Y
namespace Go.aj
structure dD where
 e:aI
 at_:Nat
 size:Nat
def oZ:Nat->Bs->Nat->List dD×Nat×Int
 |0,_,at_=>([],at_,0)
 |k+1,b,at_=>
  if b=[] then ([],at_,0)
  else if (read b).2.2≠0 then ([],at_,(read b).2.2)
  else (⟨(read b).1,at_,(read b).2.1⟩::(oZ k (b.drop (read b).2.1) (at_+(read b).2.1)).1,(oZ k (b.drop (read b).2.1) (at_+(read b).2.1)).2)
def uj:Bs:=[72,79,65,82,68,83,69,71]
def scan (b:Bs):List dD×Nat×Int:=if b.take 8=uj then oZ b.length (b.drop 8) 8 else ([],0,4)
end Go.aj
namespace Go.Proofs.Y
open Go.ay
section
variable {av:Value}
theorem abI {l:Bs} (h:bF 1 v (aA l) w):(convert 39 9 v).run prog w=.ok (.string ⟨l.toArray⟩) w:=by
 obtain ⟨a,n,c,rfl,hl,hx⟩:=h;rw [aX,aes]at hl;subst hl;cases a with
 |none=>
  obtain rfl:l=[]:=by
   cases l with
   |nil=>rfl
   |cons d l=>obtain ⟨b,hb,_⟩:=hx 0 _ rfl;cases hb
  exact Lib.run_convert_nil_bytes (P:=prog) w _ _ 5 c underlying39 underlying5 underlying9
 |some ad=>
  refine run_convert_bytes_back (P:=prog) w _ _ 5 ad c l underlying39 underlying5 underlying9 (λj hj=>?_);have hy:(aA l)[j]?=some (.int .u8 (l[j]'hj).toNat):=by unfold aA;rw [adW,aay hj];rfl
  obtain ⟨b,hb,hc⟩:=hx _ _ hy;cases hb;simpa using hc
theorem afL (la lb:Bs) (ha:bF 1 av (aA la) w) (hb:bF 1 bv (aA lb) w) :
  Calls prog 92 #[av,bv] w (aP λv w'=>v=.bool (decide (la=lb))/\w=w'):=by
 have h1:=abI ha;have h2:=abI hb
 have He:=uQ (show ((la.toArray.toList:List UInt8)==lb.toArray.toList)=decide (la=lb) by
  rw [aol,ai5,adY])
 clear ha hb;go_enter func92,ntmps92;go_wp2;go_ret;rw [<-He.o];exact ⟨_,rfl,rfl,rfl⟩
theorem aic (l lp:Bs) (a:Option Addr) (n c:Nat) (hn:n<=c) (hc:c<=9223372036854775807) (ha:bF 1 (.slice a n c) (aA l) w) (pa:Option Addr) (pn pc:Nat) (hp:bF 1 (.slice pa pn pc) (aA lp) w) :
  Calls prog 49 #[.slice a n c,.slice pa pn pc] w (aP λv w'=>v=.bool (decide (l.take lp.length=lp))/\w=w'):=by
 have hln:n=l.length:=by
  obtain ⟨_,_,_,he,hl',_⟩:=ha;cases he;rw [aX,aes]at hl';exact hl'.symm
 have hpn:pn=lp.length:=by
  obtain ⟨_,_,_,he,hl',_⟩:=hp;cases he;rw [aX,aes]at hl';exact hl'.symm
 subst hln hpn;by_cases hle:lp.length<=l.length
 ·have h4:=abG (k:=lp.length) ha;rw [show min l.length lp.length=lp.length by omega]at h4;have hq:=afL _ _ h4 hp;have c1:(lp.length:Int)<=(l.length:Int):=by omega
  have c2:(lp.length:Int)<=(c:Int):=by omega
  have c3:lp.length<=l.length:=hle;clear h4 ha hp;go_enter func49,ntmps49;go_wp2_with (go_at_call 92;refine hq.mono ?_;rintro e w1 ⟨v,rfl,rfl,rfl⟩);go_ret;exact ⟨_,rfl,rfl,rfl⟩
 ·have c1:¬ lp.length<=l.length:=hle;have c2:decide ((lp.length:Int)<=(l.length:Int))=false:=ad2 oQ
  have He:=uQ (show decide (l.take lp.length=lp)=false by
   apply ad2;intro hh;have:=aey List.length hh;rw [ads]at this;omega)
  clear ha hp;go_enter func49,ntmps49;go_wp2;go_ret;rw [He.o];exact ⟨_,rfl,rfl,rfl⟩
end
end Go.Proofs.Y
namespace Go.aj
def Xk (long:Nat) (x:aI):aI:=⟨x.tag,x.key,x.data.take long⟩
def few (l:List aI) (n long:Nat):List aI:=(l.take n).map (Xk long)
end Go.aj
namespace Go.Proofs.Y
open Go.ay
theorem alp {k:Nat}{l:Bs}{a:Option Addr}{n c:Nat} (h:bF 1 (.slice a n c) (aA l) w):bF 1 (.slice a (min n k) c) (aA (l.take k)) w:=by
 obtain ⟨a',n',c',he,hl,hx⟩:=h;cases he;rw [aX,aes]at hl;refine ⟨a,_,c,rfl,by rw [aX,ads];omega,λj y hj=>?_⟩;have hj':(aA l)[j]?=some y:=by
  unfold aA at hj ⊢;rw [aoU,aeY]at hj;split at hj
  ·exact hj
  ·cases hj
 exact hx j y hj'
theorem XR (e:aj.aI) (a:Option Addr) (n c:Nat):(dQ e (.slice a n c)).toList.all (·.oneCell')=true:=by
 unfold dQ lZ;rw [ad6,aql,aiJ];have:(aA e.key).all (·.oneCell')=true:=ae0.2 (wG _);rw [this];rfl
end Go.Proofs.Y
namespace Go.aj
theorem abK {b:Bs} (h:(read b).2.2=0):9<=(read b).2.1/\(read b).2.1<=b.length/\(read b).1.key.length=32:=by
 unfold read at *
 dsimp only at *
 split at h
 ·simp at h
 rename_i h9;rw [abj h9];split at h
 ·simp at h
 rename_i hf;rw [abj hf];split at h
 ·simp at h
 rename_i hl;rw [abj hl];split at h
 ·simp at h
 rename_i hc;rw [abj hc];have hfit:fits (b.getD 8 0) (num ((b.drop 4).take 4))=true:=by
  cases hh:fits (b.getD 8 0) (num ((b.drop 4).take 4)) with
  |true=>rfl
  |false=>exact absurd hh hf
 have Cm:9<=num ((b.drop 4).take 4):=by
  unfold fits at hfit;split at hfit
  ·have:=ajl hfit;omega
  ·split at hfit
   ·have:=ajl hfit;omega
   ·split at hfit
    ·have:=ajl hfit;omega
    ·cases hfit
 split
 ·rename_i qH;refine ⟨Cm,Nat.not_lt.1 hl,?_⟩;simp only [ads,ad3];omega
 ·exact ⟨Cm,Nat.not_lt.1 hl,rfl⟩
theorem RH (b:Bs):(read b).1.key.length=32:=by
 unfold read;dsimp only;split
 ·rfl
 split
 ·rfl
 split
 ·rfl
 split
 ·rfl
 rename_i h9 hf hl hc;split
 ·rename_i qH;simp only [ads,ad3];omega
 ·rfl
end Go.aj
namespace Go.Proofs.Y
open Go.ay
def nT (f:aj.dD) (dv:Value):List Value:=lZ f.e dv++[.int .i64 f.at_,.int .i64 f.size]
def gV (f:aj.dD) (dv:Value):Array Value:=(nT f dv).toArray
def jO (fs:List (aj.dD×Value)):List Value:=fs.flatMap λp=>nT p.1 p.2
def lI (fs:List (aj.dD×Value)):aG:=stars (fs.map λp=>bQ p.2 p.1.e.data)
theorem tK (f:aj.dD) (dv:Value) (hk:f.e.key.length=32):(nT f dv).length=36:=by unfold nT;rw [aaL,OY _ _ hk];rfl
theorem pq (f:aj.dD) (dv:Value) (hk:f.e.key.length=32):(gV f dv).size=36:=by unfold gV;rw [abn,tK _ _ hk]
theorem Ye {fs:List (aj.dD×Value)} (hk:∀ p∈fs,p.1.e.key.length=32):(jO fs).length=36*fs.length:=by
 unfold jO
 induction fs with
 |nil=>rfl
 |cons p fs ih=>
  rw [ael,aaL,ih (λq hq=>hk q (.tail _ hq)),tK _ _ (hk p (.head _)),aep];omega
theorem ahv (es fs:List (aj.dD×Value)):jO (es++fs)=jO es++jO fs:=by unfold jO;rw [aeB]
theorem agB (es:List (aj.dD×Value)) (x:aj.dD) (dv:Value):lI (es++[(x,dv)])=star (bQ dv x.e.data) (lI es):=by
 unfold lI;rw [adU,qO,DK];show star (stars [bQ dv x.e.data]) _=_;rw [DL]
theorem akL:sN prog 54=some [(0,34),(34,1),(35,1)]:=by kernel_rfl
def UK:aj.dD:=⟨aj.zeroE,0,0⟩
theorem G5:jF prog 54=some (.agg (gV UK (.slice none 0 0))):=by kernel_rfl
theorem ak9 (cs:Array Value) (hs:cs.size=36) (el:List Value) (u v:Value) (hk:el.length=34):(eU (eU (eU cs 0 el) 34 [u]) 35 [v]).toList=el++[u,v]:=by
 have hcl:cs.toList.length=36:=by simpa using hs
 have e1:(eU cs 0 el).toList=el++cs.toList.drop 34:=by
  rw [l9 _ _ _ oQ,aeO,aeu,ad8,hk]
 have e2:(eU (eU cs 0 el) 34 [u]).toList=el++[u]++cs.toList.drop 35:=by
  rw [l9 _ _ _ (by rw [kW];simp;omega),e1,aeC oQ,ad9 oQ,aer,apU,hk,aew (l:=el) oQ,aeu,apZ]
 have h3:(el++[u]).length=35:=by simp [hk]
 rw [l9 _ _ _ (by rw [kW,kW];simp;omega),e2,aeC oQ,ad9 oQ,aer,aew (by rw [aaL,h3,ad3];omega)];simp
theorem amb (e:aj.aI) (hk:e.key.length=32) (da:Option Addr) (dn dc:Nat) (at_ n:Nat) (w:World) :
  (Instr.build 54 #[(0,.agg (dQ e (.slice da dn dc))),(1,.int .i64 at_),(2,.int .i64 n)]).run prog w=.ok (.agg (gV ⟨e,at_,n⟩ (.slice da dn dc))) w:=by
 have hz:(gV UK (.slice none 0 0)).size=36:=pq _ _ rfl;have he:(dQ e (.slice da dn dc)).size=34:=fF _ _ hk
 have h:=apP (P:=prog) [(0,.agg (dQ e (.slice da dn dc))),(1,.int .i64 at_),(2,.int .i64 n)] akL G5 (by
  intro p hp;simp only [ad5,ah4,apX]at hp;have hzz:(Value.agg (gV UK (.slice none 0 0))).cells.size=36:=hz;rw [hzz];rcases hp with rfl|rfl|rfl
  ·refine ⟨0,?_,?_⟩
   ·show some (0,34)=some (0,(dQ e (.slice da dn dc)).size);rw [he]
   ·show 0+(dQ e (.slice da dn dc)).size<=36;omega
  ·exact ⟨34,rfl,by show 34+1<=36;omega⟩
  ·exact ⟨35,rfl,by show 35+1<=36;omega⟩) w
 refine h.trans ?_
 congr 2
 apply ql;exact ak9 _ hz _ _ _ (show (dQ e (.slice da dn dc)).toList.length=34 by rw [ad4,he])
section
variable {pos:String}{x z:Operand}{v1 v2 v3:Value}{i1 i2 i3:Nat}
theorem adz (h1:a.eval x=v1) (h2:a.eval y=v2) (h3:a.eval z=v3) (hr:∀ w,(Instr.build ty #[(i1,v1),(i2,v2),(i3,v3)]).run P w=.ok v w) (h:wpList P ops Q rest (a.put dst v) w) :
  wpList P ops Q (⟨dst,.build ty #[(i1,x),(i2,y),(i3,z)],t,pos,after,none⟩::rest) a w:=
 aeV rfl λ_ hK=>by
  unfold Oper.wp execOp;simp only [aeX,ad7,aeF,h1,h2,h3,ad1,hr,adu,aek];exact hK _ _ h
theorem Wu (h:Stop (wpList P ops Q (⟨dst,.build ty #[(i1,x),(i2,y),(i3,z)],t,pos,after,none⟩::rest) a w)):wpList P ops Q (⟨dst,.build ty #[(i1,x),(i2,y),(i3,z)],t,pos,after,none⟩::rest) a w:=h.o
theorem EW (f:aj.dD) (a:Option Addr) (n c:Nat):(gV f (.slice a n c)).toList.all (·.oneCell')=true:=by
 unfold gV nT;rw [ad6,aiJ];have h1:(lZ f.e (.slice a n c)).all (·.oneCell')=true:=by
  have:=XR f.e a n c;unfold dQ at this
  rwa [ad6]at this
 rw [h1];rfl
end
end Go.Proofs.Y
namespace Go.Seg
def Log.next (L:Log):Int:=match L.l.getLast? with
 |none=>0
 |some s=>s.1+1
end Go.Seg
namespace Go.Proofs.Y
open Go.ay
section
variable {L:Seg.Log}
theorem DF (l:List (Int×Int)) (i:Nat) (s:Int×Int) (h:l[i]?=some s):(eY l)[2*i]?=some (.int .i64 s.1)/\(eY l)[2*i+1]?=some (.int .i64 s.2):=by
 induction l generalizing i with
 |nil=>simp at h
 |cons a l ih=>
  cases i with
  |zero=>
   obtain rfl:a=s:=by simpa using h
   exact ⟨rfl,rfl⟩
  |succ i=>
   have e1:eY (a::l)=.int .i64 a.1 :: .int .i64 a.2::eY l:=rfl;have h':l[i]?=some s:=by simpa using h
   rw [e1,show 2*(i+1)=2*i+1+1 by omega];exact ih i h'
theorem ajv {s:Int×Int} (hl:L.l.getLast?=some s) (h:Sat w0 w (nK p m L lv::aC 105 2 lv (eY L.l)::F)) :
  ∃ bk n c,lv=.slice (some ⟨bk,0,none⟩) (n+1) c/\L.l.length=n+1/\w.cell? ⟨bk,2*n,none⟩=some (.int .i64 s.1)/\w.cell? ⟨bk,2*n+1,none⟩=some (.int .i64 s.2):=by
 rw [aeH]at hl;have hlt:=(abm.1 hl).1;obtain ⟨n,hn⟩:∃ n,L.l.length=n+1:=⟨L.l.length-1,by omega⟩;rw [hn,ao8]at hl;obtain ⟨h1,h2⟩:=DF _ _ _ hl;have hS:Sat w0 w (aC 105 2 lv (eY L.l)::nK p m L lv::F):=h.bf;rcases hS.lC with ⟨rfl,hx,_⟩|⟨b,n',cap,cs,rfl,hll,hn',hc,hcm,htk,hp⟩
 ·rw [hx]at h1;simp at h1
 ·rw [lD,hn]at hll;obtain rfl:n'=n+1:=by omega
  exact ⟨b,n,cap,rfl,hn,hp.cellAt _ _ (kY htk h1),hp.cellAt _ _ (kY htk h2)⟩
theorem anh (hlen:L.l.length<=1048576) (hb:∀ s∈L.l,0<=s.1/\s.1<1048576) (h:Sat w0 w (nK p m L lv::aC 105 2 lv (eY L.l)::F)) :
  Calls prog 171 #[ptr p] w (aP λv w'=>v=.int .i64 L.next/\Sat w0 w' (nK p m L lv::aC 105 2 lv (eY L.l)::F)):=by
 cases hl:L.l.getLast? with
 |none=>
  have hnil:=ahP.1 hl;refine (akc hnil h).mono ?_;rintro e w1 ⟨v,rfl,rfl,rfl⟩;exact ⟨_,rfl,by unfold Seg.Log.next;rw [hl],h⟩
 |some s=>
  have bH:=uQ (show L.next=s.1+1 by unfold Seg.Log.next;rw [hl]);have hs:=hb s (ae5 hl);obtain ⟨bk,n,c,rfl,hn,c1,c2'⟩:=ajv hl h;have hok:=uq h;have c2:=h.cellAt 2 _ rfl;have hS:=h.drew;have c1':w.drew.cell? ⟨bk,n*2,none⟩=some (.int .i64 s.1):=by rw [aiv];exact c1
  have hwn:IntKind.i64.wrap (n:Int)=(n:Int):=by rw [aeU];omega
  have hn0:(n:Int)<(n:Int)+1:=by omega
  have cd:w.drew.cell? ⟨p,2,none⟩=some (.slice (some ⟨bk,0,none⟩) (n+1) c):=c2;have hw1:IntKind.i64.wrap (s.1+1)=s.1+1:=by rw [aeU];omega
  have Hs:=uQ hs;have Hn:=uQ hn;clear hs hn hb hlen hl c2';go_enter func171,ntmps171;go_wp2_with (go_at_call 45;refine hok.mono ?_;rintro e w1 ⟨v,rfl,rfl,rfl⟩)
  go_region
  go_wp2;go_ret;exact ⟨_,rfl,by rw [bH.o];rfl,hS⟩
end
end Go.Proofs.Y
namespace Go.Seg
open Go.ay
structure aV where
 seg:Int
 at_:Int
 size:Int
def aV.zero:aV:=⟨0,0,0⟩
def mag:Bs:=[72,79,65,82,68,83,69,71]
def Log.grow (L:Log) (M:ay) (b:Bs):(Log×ay)×aV×Int:=
 match L.l.getLast? with
 |none=>((L,M),aV.zero,0)
 |some s=>
  if (M.append (name s.1) b).2=0 then (({ L with l:=L.l.dropLast++[(s.1,s.2+(b.length:Int))] },(M.append (name s.1) b).1),⟨s.1,s.2,b.length⟩,0)
  else ((L,(M.append (name s.1) b).1),aV.zero,(M.append (name s.1) b).2)
def Log.shut (L:Log) (M:ay):(Log×ay)×Int:=
 match L.l.getLast? with
 |none=>((L,M),0)
 |some s=>
  if L.on=true then
   if (M.sync (name s.1)).2=0 then (({ L with on:=false },(M.sync (name s.1)).1),0)
   else ((L,(M.sync (name s.1)).1),(M.sync (name s.1)).2)
  else ((L,M),0)
def Log.jC (L:Log) (M:ay) (b:Bs):(Log×ay)×aV×Int:=
 if 1048576<=L.next then ((L,M),aV.zero,16)
 else if (M.create (name L.next)).2≠0 then ((L,(M.create (name L.next)).1),aV.zero,(M.create (name L.next)).2)
 else if ((M.create (name L.next)).1.append (name L.next) (mag++b)).2=0 then
  (({ L with l:=L.l++[(L.next,8+(b.length:Int))],on:=true,fresh:=L.fresh+1 },((M.create (name L.next)).1.append (name L.next) (mag++b)).1),⟨L.next,8,b.length⟩,0)
 else if ((M.create (name L.next)).1.append (name L.next) (mag++b)).2=11 then
  ((L,(((M.create (name L.next)).1.append (name L.next) (mag++b)).1.remove (name L.next)).1),aV.zero,
   if (((M.create (name L.next)).1.append (name L.next) (mag++b)).1.remove (name L.next)).2=0 then 11 else (((M.create (name L.next)).1.append (name L.next) (mag++b)).1.remove (name L.next)).2)
 else ((L,((M.create (name L.next)).1.append (name L.next) (mag++b)).1),aV.zero,((M.create (name L.next)).1.append (name L.next) (mag++b)).2)
def Log.begin (L:Log) (M:ay) (b:Bs):(Log×ay)×aV×Int:=
 if (L.shut M).2=0 then (L.shut M).1.1.jC (L.shut M).1.2 b else ((L.shut M).1,aV.zero,(L.shut M).2)
def Log.fits (L:Log) (n:Nat):Bool:=L.on && decide ((L.l.getLast?.map (·.2)).getD 0+n<=L.limit)
def Log.append (L:Log) (M:ay) (x:aj.aI):(Log×ay)×aV×Int:=
 if (aj.encode x).2≠0 then ((L,M),aV.zero,(aj.encode x).2)
 else if L.fits (aj.encode x).1.length=true then L.grow M (aj.encode x).1 else L.begin M (aj.encode x).1
def bC:aj.aI:=⟨2,aj.zero32,[]⟩
def Log.commit (L:Log) (M:ay):(Log×ay)×Int×Int:=
 if (L.append M bC).2.2≠0 then ((L.append M bC).1,0,(L.append M bC).2.2)
 else if ((L.append M bC).1.2.sync (name (L.append M bC).2.1.seg)).2≠0 then (((L.append M bC).1.1,((L.append M bC).1.2.sync (name (L.append M bC).2.1.seg)).1),0,((L.append M bC).1.2.sync (name (L.append M bC).2.1.seg)).2)
 else if (((L.append M bC).1.2.sync (name (L.append M bC).2.1.seg)).1.dR).2≠0 then (((L.append M bC).1.1,(((L.append M bC).1.2.sync (name (L.append M bC).2.1.seg)).1.dR).1),0,(((L.append M bC).1.2.sync (name (L.append M bC).2.1.seg)).1.dR).2)
 else (({ (L.append M bC).1.1 with on:=false,fresh:=0 },(((L.append M bC).1.2.sync (name (L.append M bC).2.1.seg)).1.dR).1),(L.append M bC).2.1.seg,0)
def Log.at (L:Log) (n:Int):Option Nat:=L.l.findIdx? (λs=>s.1==n)
def Log.find (L:Log) (n:Int):Int:=match L.at n with
 |some i=>i
 |none=> -1
def Log.without (L:Log) (i:Nat):Log:=
 ⟨L.limit,L.l.eraseIdx i,if i+1=L.l.length then false else L.on,if (L.l.length:Int)-L.fresh<=i then L.fresh-1 else L.fresh⟩
def Log.remove (L:Log) (M:ay) (n:Int):(Log×ay)×Int:=
 match L.at n with
 |none=>((L,M),9)
 |some i=>if (M.remove (name n)).2=0 then ((L.without i,(M.remove (name n)).1),0) else ((L,(M.remove (name n)).1),(M.remove (name n)).2)
def Log.size (L:Log) (n:Int):Int:=match L.at n with
 |none=>0
 |some i=>(L.l.getD i (0,0)).2
def Log.bytes (L:Log) (M:ay) (n:Int):Bs×Int:=match L.at n with
 |none=>([],9)
 |some _=>M.all (name n)
structure Log.Ok (L:Log):Prop where
 limit:128<=L.limit/\L.limit<=1048576
 rise:(L.l.map (·.1)).Pairwise (· < ·)
 nums:∀ s∈L.l,0<=s.1/\s.1<1048576
 sizes:∀ s∈L.l,0<=s.2/\s.2<=33554432
 fresh:0<=L.fresh/\L.fresh<=L.l.length
 on:L.on=true->L.l≠[]
theorem abT:∀ (l:List Int) (a:Int),l.Pairwise (· < ·)->(∀ x∈l,a<=x)->(∀ x∈l,x<1048576)->a<=1048576->(l.length:Int)<=1048576-a
 |[],a,_,_,_,h=>by simp;omega
 |x::l,a,hp,h1,h2,h3=>by
  obtain ⟨hx,hp'⟩:=aeZ.1 hp;have e1:=h1 x (.head _);have e2:=h2 x (.head _);have:=abT l (x+1) hp' (λy hy=>by have:=hx y hy;omega) (λy hy=>h2 y (.tail _ hy)) oQ;rw [aep];omega
theorem Log.Ok.len {L:Log} (h:L.Ok):L.l.length<=1048576:=by
 have:=abT (L.l.map (·.1)) 0 h.rise (by intro x hx;obtain ⟨s,hs,rfl⟩:=abL.1 hx;exact (h.nums s hs).1) (by intro x hx;obtain ⟨s,hs,rfl⟩:=abL.1 hx;exact (h.nums s hs).2) oQ;rw [aa4]at this;omega
theorem Log.Ok.shut {L:Log} (h:L.Ok) (M:ay):(L.shut M).1.1.Ok:=by
 unfold Log.shut;split;· exact h
 split
 ·split
  ·exact ⟨h.limit,h.rise,h.nums,h.sizes,h.fresh,λhh=>by cases hh⟩
  ·exact h
 ·exact h
theorem FP {L:Log}{s:Int×Int} (h:L.l.getLast?=some s):L.l=L.l.dropLast++[s]:=by
 have hne:L.l≠[]:=by intro e;rw [e]at h;cases h
 have h2:=List.dropLast_concat_getLast hne;rw [List.getLast?_eq_some_getLast hne]at h;cases h;exact h2.symm
theorem Qp {L:Log}{s:Int×Int} (h:L.l.getLast?=some s):L.l.length=L.l.dropLast.length+1:=by
 have:=aey List.length (FP h);rw [aaL,aer]at this;exact this
theorem Log.Ok.next {L:Log} (h:L.Ok):0<=L.next/\L.next<=1048576/\∀ s∈L.l,s.1<L.next:=by
 unfold Log.next;cases hl:L.l.getLast? with
 |none=>
  have:=ahP.1 hl;simp [this]
 |some s=>
  have hs:=h.nums s (ae5 hl);refine ⟨by simp only;omega,by simp only;omega,?_⟩;have e:=FP hl;have hr:=h.rise;rw [e,adU,aiq]at hr;intro t ht;rw [e]at ht;rcases aeg.1 ht with ht|ht
  ·have:=hr.2.2 t.1 (abL.2 ⟨t,ht,rfl⟩) s.1 yF0;simp only;omega
  ·rw [adZ.1 ht];simp only;omega
theorem Log.Ok.snoc {L:Log} (h:L.Ok) (hn:L.next<1048576) (z:Nat) (hz:z<=16777216):({ L with l:=L.l++[(L.next,8+(z:Int))],on:=true,fresh:=L.fresh+1 }:Log).Ok:=by
 obtain ⟨n1,n2,n3⟩:=h.next;have hf:=h.fresh;refine ⟨h.limit,?_,?_,?_,⟨by simp only;omega,by simp only [aaL,aer];omega⟩,λ_=>by simp⟩
 ·simp only;rw [adU,aiq];refine ⟨h.rise,by simp,?_⟩;intro a ha b hb;obtain ⟨s,hs,rfl⟩:=abL.1 ha;simp only [ad7,aeF,adZ]at hb;subst hb;exact n3 s hs
 ·intro s hs;rcases aeg.1 hs with hs|hs
  ·exact h.nums s hs
  ·rw [adZ.1 hs];exact ⟨n1,hn⟩
 ·intro s hs;rcases aeg.1 hs with hs|hs
  ·exact h.sizes s hs
  ·rw [adZ.1 hs];exact ⟨by simp only;omega,by simp only;omega⟩
theorem Log.Ok.jC {L:Log} (h:L.Ok) (M:ay) (b:Bs) (hb:b.length<=16777216):(L.jC M b).1.1.Ok:=by
 unfold Log.jC;split;· exact h
 rename_i hn;split;· exact h
 split;· exact h.snoc oQ _ hb
 split;· exact h
 exact h
theorem Log.Ok.begin {L:Log} (h:L.Ok) (M:ay) (b:Bs) (hb:b.length<=16777216):(L.begin M b).1.1.Ok:=by
 unfold Log.begin;split
 ·exact (h.shut M).jC _ _ hb
 ·exact h.shut M
theorem Log.Ok.grow {L:Log} (h:L.Ok) (M:ay) (b:Bs) (hf:L.fits b.length=true):(L.grow M b).1.1.Ok:=by
 unfold Log.grow;split;· exact h
 rename_i s hl;split
 ·have e:=FP hl;have hr:=h.rise;have hlen:L.l.length=L.l.dropLast.length+1:=Qp hl;unfold Log.fits at hf;rw [aev,adY,hl]at hf;have hlim:=h.limit;refine ⟨h.limit,?_,?_,?_,?_,λ_=>by simp⟩
  ·rw [e]at hr;simpa using hr
  ·intro t ht;rcases aeg.1 ht with ht|ht
   ·exact h.nums t (by rw [e];exact ap0 _ ht)
   ·rw [adZ.1 ht];exact h.nums s (ae5 hl)
  ·intro t ht;rcases aeg.1 ht with ht|ht
   ·exact h.sizes t (by rw [e];exact ap0 _ ht)
   ·rw [adZ.1 ht];have:=h.sizes s (ae5 hl);have h2:s.2+(b.length:Int)<=L.limit:=hf.2;simp only;omega
  ·have:=h.fresh;simp only [aaL,aer];omega
 ·exact h
theorem encode_len (x:aj.aI) (hk:x.key.length=32):(aj.encode x).1.length<=16425:=by
 unfold aj.encode;split;· simp
 rename_i hc;have hd:x.data.length<=16384:=by
  unfold aj.check at hc
  repeat' split at hc
  all_goals first|omega|simp at hc
 unfold aj.body;simp only [aaL,aj.jk,aer];split
 ·simp;omega
 ·omega
theorem Log.Ok.append {L:Log} (h:L.Ok) (M:ay) (x:aj.aI) (hk:x.key.length=32):(L.append M x).1.1.Ok:=by
 have hl:=encode_len x hk;unfold Log.append;split;· exact h
 split
 ·rename_i hf;exact h.grow M _ hf
 ·exact h.begin M _ oQ
theorem Log.Ok.commit {L:Log} (h:L.Ok) (M:ay):(L.commit M).1.1.Ok:=by
 have h1:=h.append M bC rfl;unfold Log.commit;split;· exact h1
 split;· exact h1
 split;· exact h1
 exact ⟨h1.limit,h1.rise,h1.nums,h1.sizes,⟨aoZ _,by simp⟩,λhh=>by cases hh⟩
theorem Log.Ok.without {L:Log} (h:L.Ok) (i:Nat) (hi:i<L.l.length):(L.without i).Ok:=by
 have hsub:(L.l.eraseIdx i).Sublist L.l:=List.eraseIdx_sublist _ _;have hlen:(L.l.eraseIdx i).length=L.l.length-1:=List.length_eraseIdx_of_lt hi;have hf:=h.fresh;refine ⟨h.limit,h.rise.sublist (hsub.map _),λs hs=>h.nums s (hsub.mem hs),λs hs=>h.sizes s (hsub.mem hs),?_,?_⟩
 ·unfold Log.without;simp only [hlen];split <;> omega
 ·unfold Log.without;simp only;split
  ·intro hh;cases hh
  ·intro _ e;have:=aey List.length e;rw [hlen]at this;simp at this;omega
theorem Log.zT {L:Log}{n:Int}{i:Nat} (h:L.at n=some i):i<L.l.length/\∃ s,L.l[i]?=some s/\s.1=n:=by
 unfold Log.at at h;rw [List.findIdx?_eq_some_iff_getElem]at h;obtain ⟨h1,h2,_⟩:=h;exact ⟨h1,_,aay h1,by simpa using h2⟩
theorem Log.Ok.remove {L:Log} (h:L.Ok) (M:ay) (n:Int):(L.remove M n).1.1.Ok:=by
 unfold Log.remove;split;· exact h
 rename_i i hi;split
 ·exact h.without i (Log.zT hi).1
 ·exact h
theorem Log.Ok.Ol {L:Log} (h:L.Ok){s:Int×Int} (hl:L.l.getLast?=some s):L.at s.1=some (L.l.length-1):=by
 have e:=FP hl;have hlen:L.l.length=L.l.dropLast.length+1:=Qp hl;have hr:=h.rise;rw [e,adU,aiq]at hr;unfold Log.at;rw [List.findIdx?_eq_some_iff_getElem];refine ⟨by omega,?_,?_⟩
 ·have:L.l[L.l.length-1]?=some s:=by rw [<-aeH];exact hl
  obtain ⟨h1,h2⟩:=abm.1 this;rw [h2];simp
 ·intro j hj;have hj':j<L.l.dropLast.length:=by omega
  have hx:L.l[j]'oQ=L.l.dropLast[j]:=by rw [List.getElem_dropLast]
  have h3:(L.l.dropLast[j]).1<s.1:=hr.2.2 (L.l.dropLast[j]).1 (abL.2 ⟨_,apT hj',rfl⟩) s.1 yF0;rw [hx];rw [ap8,adX];omega
def Log.back:Nat->Log->ay->(Log×ay)×Int
 |0,L,M=>(({ L with on:=false },M),0)
 |k+1,L,M=>
  match L.l.getLast? with
  |none=>(({ L with on:=false },M),0)
  |some s=>if (L.remove M s.1).2=0 then Log.back k (L.remove M s.1).1.1 (L.remove M s.1).1.2 else L.remove M s.1
def Log.rollback (L:Log) (M:ay):(Log×ay)×Int:=L.back L.fresh.toNat M
theorem Log.Ok.am4 {L:Log} (h:L.Ok):({ L with on:=false }:Log).Ok:=⟨h.limit,h.rise,h.nums,h.sizes,h.fresh,λhh=>by cases hh⟩
end Go.Seg
