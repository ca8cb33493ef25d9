import Derived.Test.YtiglchkhikciiaaGreatDoorJ2
import Derived.Deep.MidRow
import Derived.Laws.ResultCell
import Derived.Laws.IdiomStrings
import Derived.Lib.BufferRead
set_option linter.unusedVariables false
set_option maxHeartbeats 128000000
namespace Go.Proofs.YtiglchkhikciiaaGreatDoor
open Go Go.Sl Go.ay Go.MapKept Go.RowKit
section
variable {P:Program}{w0 w:World}{R:List aG}{v x:Value}{xs ys:List Value}
theorem agB (t ty e:TypeId) (i:TypeInfo) (z:Value) (ht:P.underlying t=some (.slice e)) (hi:P.info? e=some i) (hz:i.zero=some z)
  (hs:i.size=1) (hzs:z.cells.size=1) (b n cap:Nat) (hl:xs.length=n) (hcap:cap≤n) (hold:bg 1 (.slice (some ⟨b,0,none⟩) n cap) xs w)
  (h:Sat w0 w R) (hx:bg 1 x ys w) (hy0:ys≠[]) (h63:xs.length+ys.length≤maxLen) (hby:(xs.length+ys.length) * i.bytes≤140737488355328) :
  ∃ b' n' c' w',(Builtin.append_ #[t,t] ty #[.slice (some ⟨b,0,none⟩) n cap,x]).run P w = .ok (.slice (some ⟨b',0,none⟩) n' c') w'∧Sat w0 w' (aC e 1 (.slice (some ⟨b',0,none⟩) n' c') (xs++ys)::R):=by
 obtain ⟨xa,m,c,rfl,hyl,vT⟩:=hx
 obtain ⟨b1,n1,c1,he1,hol,hoc⟩:=hold
 cases he1
 rw [aiw]at hyl
 have hm:0<m:=by
  rw [← hyl]
  exact akA.2 hy0
 obtain ⟨ad,rfl⟩:∃ ad,xa=some ad:=by
  obtain ⟨y,hy⟩:∃ y,ys[0]?=some y:=by
   cases ys with
   |nil=>exact absurd rfl hy0
   |cons y _=>exact ⟨y,rfl⟩
  obtain ⟨b,hb,_⟩:=vT 0 y hy
  exact ⟨b,hb⟩
 have hnews:∀ j u,ys[j]?=some u→w.cell? (ad.add j)=some u:=fun j u hj=>by
  obtain ⟨b,hb,hx⟩:=vT j u hj
  cases hb;exact hx
 have holds:∀ j u,xs[j]?=some u→w.cell? ((⟨b,0,none⟩:Addr).add j)=some u:=fun j u hj=>by
  obtain ⟨b',hb,hx⟩:=hoc j u hj
  cases hb;exact hx
 have h63':maxLen=9223372036854775807:=rfl
 have hr:=run_append_grow (P:=P) w t ty e i z ht hi hz ⟨b,0,none⟩ n cap xs (by rw [hs];omega) holds ad m c ys (by rw [hs];omega) hnews oQ oQ (growslice_fits oQ (by rw [← hl,← hyl];exact hby))
 refine ⟨_,_,_,_,hr,?_⟩
 have hge:=grownCap_ge w (n+m) cap e
 have hcm:=grownCap_le_maxLen w (n+m) cap e oQ
 have:=(h.drew).alloc (.cells (xs.toArray++ys.toArray++Builtin.zeroCells z.cells (grownCap w (n+m) cap e - (n+m))) e)
 refine Sat.kC this ?_ hge ?_ hcm ?_
 ·rw [aal,hl,hyl,aiw]
 ·simp only [Array.size_append,aaI,size_zeroCells,hzs]
  omega
 ·simp only [alj,adR]
  rw [← adR]
  have e1:(n+m) * 1=(xs++ys).length:=by rw [aal,hl,hyl,aiw]
  rw [e1]
  exact List.take_left
theorem ahK {ops:Array Oper}{o:Oper}{a:Act}{K:Act→World→Prop}{Q:Exit→Act→World→Prop}{E:Prop} (hgd:o.guard=none) (s y:Operand) (t:TypeId)
  (ho:o.op = .call { callee:= .builtin .append,args:=#[s,y],argTypes:=#[t,t] })
  (e:TypeId) (i:TypeInfo) (z:Value) (ht:P.underlying t=some (.slice e)) (hi:P.info? e=some i) (hz:i.zero=some z)
  (hs:i.size=1) (hzs:z.cells.size=1) {b n cap:Nat} (hl:xs.length=n) (hcap:cap≤n) (hold:bg 1 (.slice (some ⟨b,0,none⟩) n cap) xs w)
  (h:Sat w0 w R) (hv:a.eval s = .slice (some ⟨b,0,none⟩) n cap) (hxv:a.eval y=x) (hx:bg 1 x ys w) (hy0:ys≠[]) (h63:xs.length+ys.length≤maxLen) (hby:(xs.length+ys.length) * i.bytes≤140737488355328)
  (hK:∀ b' n' c' w',Sat w0 w' (aC e 1 (.slice (some ⟨b',0,none⟩) n' c') (xs++ys)::R)→K (a.put o.dst (.slice (some ⟨b',0,none⟩) n' c')) w') :
  if Region.wanted o (yielded ops a.tmps)=true then Oper.wp P o a w K Q else E:=by
 have hw:Region.wanted o (yielded ops a.tmps)=true:=by simp [Region.wanted,hgd]
 rw [ac3 hw]
 obtain ⟨b',n',c',w',hr,h2⟩:=agB (P:=P) t o.type e i z ht hi hz hs hzs b n cap hl hcap hold h hx hy0 h63 hby
 unfold Oper.wp execOp
 simp only [ho,resolve,invoke,builtin,adO,aeC,ac2,ajR,ag8,ajP,hv,hxv,hr]
 exact hK _ _ _ w' h2
end
section
variable {w0 w:World}{F:List aG}{v bv dv x lv:Value}{q p m K:Nat}{L:Seg.Log}{M:ay}
theorem qV (h:Sat w0 w (lD p m L lv::F)) :
  Calls Tryz.prog 74 #[ptr p] w (aO fun v w'=>v = .bool true∧w=w'):=by
 have c0:=h.cellAt 0 _ rfl
 go_enter Tryz.func74,Tryz.ntmps74
 go_wp2
 go_ret
 exact ⟨_,rfl,rfl,rfl⟩
theorem aeT (hl:L.l=[]) (h:Sat w0 w (lD p m L lv::aC 153 2 lv (dR L.l)::F)) :
  Calls Tryz.prog 166 #[ptr p] w (aO fun v w'=>v = .int .i64 0∧w=w'):=by
 have hok:=qV h
 have c2:=h.cellAt 2 _ rfl
 have hlv:∃ a c,lv = .slice a 0 c:=by
  obtain ⟨a,n,c,rfl,hn,_⟩:=Sat.rd h.aZ
  refine ⟨a,c,?_⟩
  rw [hl]at hn
  have:n=0:=by simp [dR]at hn;omega
  rw [this]
 obtain ⟨la,lc,rfl⟩:=hlv
 go_enter Tryz.func166,Tryz.ntmps166
 go_wp2_with (go_at_call 74;refine hok.mono ?_;rintro e w1 ⟨v,rfl,rfl,rfl⟩)
 go_ret
 exact ⟨_,rfl,rfl,rfl⟩
theorem ahp (hon:L.on=false) (h:Sat w0 w (lD p m L lv::F)) :
  Calls Tryz.prog 165 #[ptr p] w (aO fun v w'=>v=errno 0∧w=w'):=by
 have c3:=h.cellAt 3 _ rfl
 rw [hon]at c3
 go_enter Tryz.func165,Tryz.ntmps165
 go_wp2
 go_ret
 exact ⟨_,rfl,rfl,rfl⟩
end
section
variable {P:Program}{w0 w:World}{R:List aG}{b:Nat}
def dM (cs:Array Value):Nat→List Value→Array Value
 |_,[]=>cs
 |o,v::r=>dM (cs.setIfInBounds o v) (o+1) r
theorem jM:∀ (vs:List Value) (cs:Array Value) (o:Nat),(dM cs o vs).size=cs.size
 |[],_,_=>rfl
 |v::r,cs,o=>by rw [dM,jM r,Array.size_setIfInBounds]
theorem Sat.sets:∀ (vs:List Value){cs:Array Value}{T:TypeId}{w:World} (o:Nat),Sat w0 w (pt b (.cells cs T (0,0))::R)→Sat w0 (w.setCells b o vs) (pt b (.cells (dM cs o vs) T (0,0))::R)
 |[],_,_,_,_,h=>h
 |v::r,_,_,_,o,h=>Sat.sets r (o+1) (h.set o v)
theorem DY {ops:Array Oper}{rest:List Oper}{op:Oper}{a:Act}{Q:Exit→Act→World→Prop}{cs:Array Value}{T:TypeId} (hgd:op.guard=none) (ty:TypeId) (x y:Operand) (ho:op.op = .store ty x y)
  (o:Nat) (v:Value) (hx:a.eval x = .pointer (some ⟨b,o,none⟩)) (hy:a.eval y=v) (hfit:o+v.cells.size≤cs.size)
  (hi:(P.info? ty).map (·.size)=some v.cells.size) (h1:v.cells.all (·.oneCell')=true) (h:Sat w0 w (pt b (.cells cs T (0,0))::R))
  (hK:∀ w',Sat w0 w' (pt b (.cells (dM cs o v.cells.toList) T (0,0))::R)→wpList P ops Q rest (a.put op.dst undef) w'):wpList P ops Q (op::rest) a w:=by
 have hth:w.there b o v.cells.size:=by
  intro j hj
  refine ⟨?_,h.nR _⟩
  rw [h.cellAt (o+j) _ (akh (show o+j<cs.size by omega))]
  rfl
 refine ajx hgd fun _ hK'=>?_
 have hst:=run_storeCells_cells (P:=P) b o v.cells.toList 0 w (fun j hj=>by simpa using (hth j (by simpa using hj)).1) (fun j hj=>by simpa using (hth j (by simpa using hj)).2)
  (fun u hu=>(Array.all_eq_true_iff_forall_mem.1 h1) u (by simpa using hu))
 have hrun:(storeVar ty ⟨b,o,none⟩ v).run P w = .ok () (w.setCells b o v.cells.toList):=by
  cases hq:P.info? ty with
  |none=>simp [hq]at hi
  |some i=>
   have hs:v.cells.size=i.size:=by simp [hq]at hi;omega
   simp only [akc]at hst
   simp [storeVar,sizeOf,typeInfo,hq,hs,hst]
 unfold Oper.wp execOp
 simp only [ho,hx,hy,Instr.storeAt,Instr.sureAddr,adO,aeC,ac2,hrun]
 exact hK' _ _ (hK _ (Sat.sets _ _ h))
structure Stop (p:Prop):Prop where
 out:p
theorem aiQ {ops:Array Oper}{rest:List Oper}{op:Oper}{a:Act}{Q:Exit→Act→World→Prop}{ty:TypeId}{x y:Operand} (ho:op.op = .store ty x y)
  (h:Stop (wpList P ops Q (op::rest) a w)):wpList P ops Q (op::rest) a w:=h.out
end
end Go.Proofs.YtiglchkhikciiaaGreatDoor
namespace Go.Sl
open Go
def Pick (A:aG) (L R:List aG):Prop:=L.Perm (A::R)
def ng (A B:aG) (L L':List aG):Prop:=∃ R,L.Perm (A::R)∧L'.Perm (B::R)
def Sub (L M:List aG):Prop:=∃ X,L.Perm (M++X)
section
variable {A B A1 A2 A3 A4 A5 A6 A7 A8 A9 A10 A11 A12:aG}{L M R L':List aG}{w0 w:World}
theorem aW (h:Pick A L R):Pick A (B::L) (B::R):=(h.cons B).trans (List.Perm.swap _ _ _)
theorem aT:Pick A (A::R) R:=aky _
theorem aZ:Pick A (A1::A::R) (A1::R):=aW aT
theorem fG:Pick A (A1::A2::A::R) (A1::A2::R):=aW aZ
theorem iZ:Pick A (A1::A2::A3::A::R) (A1::A2::A3::R):=aW fG
theorem qA:Pick A (A1::A2::A3::A4::A::R) (A1::A2::A3::A4::R):=aW iZ
theorem VG:Pick A (A1::A2::A3::A4::A5::A::R) (A1::A2::A3::A4::A5::R):=aW qA
theorem afn:Pick A (A1::A2::A3::A4::A5::A6::A::R) (A1::A2::A3::A4::A5::A6::R):=aW VG
theorem jh (h:ng A B L L'):ng A B (A1::L) (A1::L'):=by
 obtain ⟨R,h1,h2⟩:=h
 exact ⟨A1::R,(h1.cons A1).trans (List.Perm.swap _ _ _),(h2.cons A1).trans (List.Perm.swap _ _ _)⟩
theorem bZ:ng A B (A::R) (B::R):=⟨R,aky _,aky _⟩
theorem Oh:ng A B (A1::A::R) (A1::B::R):=jh bZ
theorem aio:ng A B (A1::A2::A::R) (A1::A2::B::R):=jh Oh
theorem N9:Sub L L:=⟨[],by simp⟩
theorem N8 (h:Sub L M):Sub (A::L) M:=by
 obtain ⟨X,h⟩:=h
 exact ⟨A::X,(h.cons A).trans akM.symm⟩
theorem Oa (p:Pick A L R) (h:Sub R M):Sub L (A::M):=by
 obtain ⟨X,h⟩:=h
 exact ⟨X,p.trans (h.cons A)⟩
theorem Sat.pick (h:Sat w0 w L) (p:Pick A L R):Sat w0 w (A::R):=h.perm p
theorem Sat.sub (h:Sat w0 w L) (p:Sub L M):Sat w0 w M:=by
 obtain ⟨X,h2⟩:=p
 exact (h.perm h2).QM
theorem Ro.sD {A:aG}{p:World→Prop} (h:Ro w0 (A::R) p) (k:Pick A L R):Ro w0 L p:=fun w hw=>h w (hw.pick k)
theorem Ro.of_sub {p:World→Prop} (h:Ro w0 M p) (k:Sub L M):Ro w0 L p:=fun w hw=>h w (hw.sub k)
theorem Sat.cellP {b:Nat}{cs:Array Value}{T:TypeId} (h:Sat w0 w L) (p:Pick (pt b (.cells cs T (0,0))) L R) (i:Nat){v:Value} (hv:cs[i]?=some v):w.cell? ⟨b,i,none⟩=some v:=(h.pick p).cellAt i v hv
end
end Go.Sl
namespace Go.Proofs.YtiglchkhikciiaaGreatDoor
open Go Go.Sl Go.ay Go.MapKept Go.RowKit
section
variable {P:Program}{w0 w:World}{L L' R:List aG}{b:Nat}{ops:Array Oper}{rest:List Oper}{a:Act}{Q:Exit→Act→World→Prop}
variable {dst:Option Tmp}{t ty T:TypeId}{pos:String}{after:Array Edge}{x y:Operand}{cs:Array Value}{v:Value}{o:Nat}
def wu (P:Program) (ty:TypeId):Bool:=match P.underlying ty with
 |some d => !d.isRow
 |none=>false
theorem agO (h1:wu P ty=true) (hc:w.cell? ⟨b,o,none⟩=some v):(loadVar ty ⟨b,o,none⟩).run P w = .ok v w:=by
 unfold wu at h1
 cases hu:P.underlying ty with
 |none=>rw [hu]at h1;cases h1
 |some d=>
  rw [hu]at h1
  have hagg:(isAgg ty).run P w = .ok false w:=by
   unfold isAgg
   rw [adO,ajO hu w]
   cases d <;> simp_all [TypeDesc.isRow]
  simp [loadVar,hagg]
  rw [hc]
theorem Xg {ad:Addr} (h1:wu P ty=true) (hc:w.cell? ad=some v):(loadVar ty ad).run P w = .ok v w:=by
 unfold wu at h1
 cases hu:P.underlying ty with
 |none=>rw [hu]at h1;cases h1
 |some d=>
  rw [hu]at h1
  have hagg:(isAgg ty).run P w = .ok false w:=by
   unfold isAgg
   rw [adO,ajO hu w]
   cases d <;> simp_all [TypeDesc.isRow]
  simp [loadVar,hagg]
  rw [hc]
theorem Rj (a:Act) (after:Array Edge) (g:Option (Nat×Bool)):execOp a.eval ⟨dst,.call { callee:= .builtin .len,args:=#[x],argTypes:=#[ty] },t,pos,after,g⟩=(do pure (.value (← Builtin.len_ #[ty] t #[a.eval x]))):=by
 rw [BigFrame.execOp_builtin,BigFrame.builtin_len];simp
theorem acw {i:Nat} (hlt:i+1≤cs.size) (hv:cs.getD i undef=v):cs[i]?=some v:=by
 rw [← hv,akn,akh (show i<cs.size by omega)];rfl
theorem dV (hs:Sat w0 w L) (hx:a.eval x = .pointer (some ⟨b,o,none⟩)) (p:Pick (pt b (.cells cs T (0,0))) L R) (hlt:o+1≤cs.size) (hv:cs.getD o undef=v) (h1:wu P ty=true)
  (h:wpList P ops Q rest (a.put dst v) w):wpList P ops Q (⟨dst,.load ty x,t,pos,after,none⟩::rest) a w:=
 ajx rfl fun _ hK=>by
  unfold Oper.wp execOp
  simp only [hx,Instr.loadAt,Instr.sureAddr,adO,aeC,ac2,agO h1 (hs.cellP p o (acw hlt hv))]
  exact hK _ _ h
theorem Au (ks:List Value) (hs:Sat w0 w L) (hx:a.eval x = .pointer (some ⟨b,o,none⟩)) (p:Pick (pt b (.cells cs T (0,0))) L R) (hv:∀ j v,ks[j]?=some v→cs[o+j]?=some v)
  {d:TypeDesc} (hu:P.underlying ty=some d) (hd:d.isRow=true) (hi:(P.info? ty).map (·.size)=some ks.length)
  (h:wpList P ops Q rest (a.put dst (.agg ks.toArray)) w):wpList P ops Q (⟨dst,.load ty x,t,pos,after,none⟩::rest) a w:=
 wpList_load_mid rfl ty x rfl b o hx ks d (fun j v hj=>hs.cellP p (o+j) (hv j v hj)) hu hd hi h
theorem gI (hs:Sat w0 w L) (hx:a.eval x = .pointer (some ⟨b,0,none⟩)) (p:Pick (pt b (.cells cs T (0,0))) L R){d:TypeDesc} (hu:P.underlying ty=some d) (hd:d.isRow=true) (hi:(P.info? ty).map (·.size)=some cs.size)
  (h:wpList P ops Q rest (a.put dst (.agg cs)) w):wpList P ops Q (⟨dst,.load ty x,t,pos,after,none⟩::rest) a w:=by
 refine wpList_load_row rfl ty x rfl b hx T cs (0,0) d (hs.pick p).at hu ?_ hi h
 cases d <;> simp_all [TypeDesc.isRow]
theorem eY (hs:Sat w0 w L) (hx:a.eval x = .pointer (some ⟨b,o,none⟩)) (hy:a.eval y=v){cs':Array Value} (hcs:dM cs o v.cells.toList=cs') (u:ng (pt b (.cells cs T (0,0))) (pt b (.cells cs' T (0,0))) L L') (hfit:o+v.cells.size≤cs.size)
  (hi:(P.info? ty).map (·.size)=some v.cells.size) (h1:v.cells.toList.all (·.oneCell')=true)
  (hK:∀ w',Sat w0 w' L'→wpList P ops Q rest (a.put dst undef) w'):wpList P ops Q (⟨dst,.store ty x y,t,pos,after,none⟩::rest) a w:=by
 subst hcs
 obtain ⟨R',h2,h3⟩:=u
 exact DY rfl ty x y rfl o v hx hy hfit hi (by rw [← Array.all_toList];exact h1) (hs.perm h2) fun w' hS=>hK w' (hS.perm h3.symm)
theorem eH (hs:Sat w0 w L) (hy:a.eval y=v) (hcs:v.cells=cs)
  (hK:∀ b w',Sat w0 w' (pt b (.cells cs ty (0,0))::L)→wpList P ops Q rest (a.put dst (.pointer (some ⟨b,0,none⟩))) w'):wpList P ops Q (⟨dst,.box ty y,t,pos,after,none⟩::rest) a w:=by
 subst hcs
 refine ajx rfl fun _ hK'=>?_
 have hS:=hs.alloc (.cells v.cells ty)
 unfold Oper.wp execOp
 have hrun:(Instr.box ty v).run P w = .ok (.pointer (some ⟨w.heap.size,0,none⟩)) (w.alloc (.cells v.cells ty)):=by
  simp [Instr.box,newVar,newRow,go_sem]
 simp only [hy,adO,aeC,hrun,ac2]
 exact hK' _ _ (hK _ _ hS)
def jy (P:Program) (ty:TypeId):Option Value:=(P.info? ty).bind (·.zero)
theorem GN (hz:jy P ty=some v) (w:World):(zeroValue ty).run P w = .ok v w:=by
 unfold jy at hz
 cases hq:P.info? ty with
 |none=>simp [hq]at hz
 |some i=>
  rw [hq]at hz
  have hz':i.zero=some v:=hz
  simp [zeroValue,typeInfo,hq,hz']
theorem dU (hz:jy P ty=some v) (hs:Sat w0 w L) (hcs:v.cells=cs)
  (hK:∀ b w',Sat w0 w' (pt b (.cells cs ty (0,0))::L)→wpList P ops Q rest (a.put dst (.pointer (some ⟨b,0,none⟩))) w'):wpList P ops Q (⟨dst,.alloc ty,t,pos,after,none⟩::rest) a w:=by
 subst hcs
 refine ajx rfl fun _ hK'=>?_
 have hS:=hs.alloc (.cells v.cells ty)
 unfold Oper.wp execOp
 have hrun:(Instr.alloc ty true (.tuple #[])).run P w = .ok (.pointer (some ⟨w.heap.size,0,none⟩)) (w.alloc (.cells v.cells ty)):=by
  simp [Instr.alloc,GN hz w,newVar,newRow,go_sem,Result.andThen]
 simp only [adO,aeC,hrun,ac2]
 exact hK' _ _ (hK _ _ hS)
theorem lN {fn:Func}{p u:Tmp}{tmps:Array Value}{d:TypeDesc} (hf:fn.results=#[.cell p ty,.tmp u]) (hs:Sat w0 w L) (hp:tmps.getD p undef = .pointer (some ⟨b,0,none⟩)) (k:Pick (pt b (.cells cs T (0,0))) L R)
  (hu:P.underlying ty=some d) (hd:d.isRow=true) (hi:(P.info? ty).map (·.size)=some cs.size) :
  (results fn tmps).run P w = .ok (.tuple #[.agg cs,tmps.getD u undef]) w:=by
 rw [results_cell_tmp hf tmps P w,hp]
 have hl:=run_loadVar_row (P:=P) w b T ty cs (0,0) d (hs.pick k).at hu (by cases d <;> simp_all [TypeDesc.isRow]) hi
 simp [asAddr,hl,Result.andThen]
theorem aI.shut2 {p m:Nat}{L:Seg.Log}{lv:Value}{F:List aG} (h:Sat w0 w (lD p m L lv::aC 153 2 lv (dR L.l)::F)):Sat w0 w (aI p m L::F):=aI.shut h
theorem aI.mP {p m:Nat}{L:Seg.Log}{F:List aG} (h:Sat w0 w (aI p m L::F)):∃ lv,Sat w0 w (lD p m L lv::aC 153 2 lv (dR L.l)::F):=aI.open h
theorem jU:∀ (ys:List Value) (cs:Array Value) (o:Nat),o+ys.length≤cs.size→(dM cs o ys).toList=cs.toList.take o++ys++cs.toList.drop (o+ys.length)
 |[],cs,o,h=>by simp [dM]
 |y::ys,cs,o,h=>by
  simp only [aja]at h
  rw [dM,jU ys _ (o+1) (by rw [Array.size_setIfInBounds];omega),Array.toList_setIfInBounds]
  have hlt:o<cs.toList.length:=by simp;omega
  rw [List.set_eq_take_append_cons_drop,ac3 hlt]
  have h1:(cs.toList.take o).length=o:=by rw [acJ];omega
  rw [List.take_append,h1,aeb oQ,show o+1 - o=1 by omega,alk,ajD]
  rw [ak7,h1,aiz (l:=cs.toList.take o) oQ,ajd,show o+1+ys.length - o=ys.length+1 by omega,ak5,ak3]
  simp only [aja,adR,ajN,ajd]
  rw [show o+1+ys.length=o+(ys.length+1) by omega]
theorem bD (h:Stop (wpList P ops Q (⟨dst,.load ty x,t,pos,after,none⟩::rest) a w)):wpList P ops Q (⟨dst,.load ty x,t,pos,after,none⟩::rest) a w:=h.out
theorem bY (h:Stop (wpList P ops Q (⟨dst,.store ty x y,t,pos,after,none⟩::rest) a w)):wpList P ops Q (⟨dst,.store ty x y,t,pos,after,none⟩::rest) a w:=h.out
theorem eG (h:Stop (wpList P ops Q (⟨dst,.box ty y,t,pos,after,none⟩::rest) a w)):wpList P ops Q (⟨dst,.box ty y,t,pos,after,none⟩::rest) a w:=h.out
theorem eU (h:Stop (wpList P ops Q (⟨dst,.alloc ty,t,pos,after,none⟩::rest) a w)):wpList P ops Q (⟨dst,.alloc ty,t,pos,after,none⟩::rest) a w:=h.out
theorem ny {ix:Nat}{k:Nat} (h:Stop (wpList P ops Q (⟨dst,.buildSlice ty k #[(ix,x)],t,pos,after,none⟩::rest) a w)):wpList P ops Q (⟨dst,.buildSlice ty k #[(ix,x)],t,pos,after,none⟩::rest) a w:=h.out
theorem lg {s z:Operand}{ta tb:TypeId} (h:Stop (wpList P ops Q (⟨dst,.call { callee:= .builtin .append,args:=#[s,z],argTypes:=#[ta,tb] },t,pos,after,none⟩::rest) a w)):wpList P ops Q (⟨dst,.call { callee:= .builtin .append,args:=#[s,z],argTypes:=#[ta,tb] },t,pos,after,none⟩::rest) a w:=h.out
section
variable {vx vy:Value}{ad:Addr}{fl:Nat}{bo:BinOp}{uo:UnOp}{tz:TypeId}{G:World→Prop}
theorem kS (o:Oper) (h:o.guard=none):Region.wanted o (yielded ops a.tmps)=true:=by simp [Region.wanted,h]
theorem ai0 (hx:a.eval x=v):Yields P ops ⟨dst,.move x,t,pos,after,none⟩ v a:=
 .inl ⟨kS _ rfl,fun w=>by simp only [execOp,hx];rfl⟩
theorem aiX (hx:a.eval x=v):Yields P ops ⟨dst,.assign x,t,pos,after,none⟩ v a:=
 .inl ⟨kS _ rfl,fun w=>by simp only [execOp,hx];rfl⟩
theorem ai1 (hx:a.eval x = .pointer (some ad)):Yields P ops ⟨dst,.nilCheck x,t,pos,after,none⟩ (.pointer (some ad)) a:=
 .inl ⟨kS _ rfl,fun w=>by simp only [execOp,hx];rfl⟩
theorem aiY (hx:a.eval x=vx) (hr:∀ w,(Instr.fieldAt ty vx fl).run P w = .ok v w):Yields P ops ⟨dst,.fieldAddr ty x fl,t,pos,after,none⟩ v a:=
 .inl ⟨kS _ rfl,fun w=>by simp only [execOp,hx,adO,hr,ac2,aeC]⟩
theorem aiZ (hx:a.eval x=vx) (hy:a.eval y=vy) (hr:∀ w,(Instr.indexAt ty vx vy).run P w = .ok v w):Yields P ops ⟨dst,.indexAddr ty x y,t,pos,after,none⟩ v a:=
 .inl ⟨kS _ rfl,fun w=>by simp only [execOp,hx,hy,adO,hr,ac2,aeC]⟩
theorem wY (hx:a.eval x=vx) (hy:a.eval y=vy) (hr:∀ w,((do eqGuard bo ty x y vx vy;binOp bo ty vx vy):Sem Value).run P w = .ok v w):Yields P ops ⟨dst,.binOp bo ty x y tz,t,pos,after,none⟩ v a:=
 .inl ⟨kS _ rfl,fun w=>by simp only [execOp,hx,hy,adO (x:=(do eqGuard bo ty x y vx vy;binOp bo ty vx vy)),hr,ac2,aeC]⟩
theorem Yt (hx:a.eval x=vx) (hr:∀ w,(Op.unary uo vx).run P w = .ok v w):Yields P ops ⟨dst,.unOp uo ty x,t,pos,after,none⟩ v a:=
 .inl ⟨kS _ rfl,fun w=>by simp only [execOp,hx,adO,hr,ac2,aeC]⟩
theorem OH (hx:a.eval x=vx) (hr:∀ w,(convert ty tz vx).run P w = .ok v w):Yields P ops ⟨dst,.convert ty tz x,t,pos,after,none⟩ v a:=
 .inl ⟨kS _ rfl,fun w=>by simp only [execOp,hx,adO,hr,ac2,aeC]⟩
theorem jw (hx:a.eval x=vx) (hr:∀ w,(Instr.extract vx fl).run P w = .ok v w):Yields P ops ⟨dst,.extract x fl,t,pos,after,none⟩ v a:=
 .inl ⟨kS _ rfl,fun w=>by simp only [execOp,hx,adO,hr,ac2,aeC]⟩
theorem nZ (hx:a.eval x=vx) (hr:∀ w,(Builtin.len_ #[ty] t #[vx]).run P w = .ok v w):Yields P ops ⟨dst,.call { callee:= .builtin .len,args:=#[x],argTypes:=#[ty] },t,pos,after,none⟩ v a:=
 .inl ⟨kS _ rfl,fun w=>by
  rw [Rj,hx]
  simp only [adO,hr,ac2,aeC]⟩
theorem ah7 (hx:a.eval x = .pointer (some ad)) (h1:wu P ty=true) (hG:∀ w,G w→w.cell? ad=some v):YieldsIf P ops G ⟨dst,.load ty x,t,pos,after,none⟩ v a:=
 .inl ⟨kS _ rfl,fun w hw=>by
  obtain ⟨b,o,el⟩:=ad
  have hc:=hG w hw
  simp only [execOp,hx,Instr.loadAt,Instr.sureAddr,adO,aeC,ac2,Xg h1 hc]⟩
def goB (P:Program) (f:FuncId):Bool:=match P.funcs[f]? with
 |some fn => !(fn.name == "runtime.NumGoroutine") && fn.body.isSome
 |none=>false
theorem agL {f:FuncId} (h:goB P f=true) (args:Array Value) (w:World):(callFunc f args).run P w = .ok (.enter f args) w:=by
 unfold goB at h
 cases hf:P.funcs[f]? with
 |none=>rw [hf]at h;cases h
 |some fn=>
  rw [hf]at h
  simp only [ajc,Bool.not_eq_true']at h
  obtain ⟨h1,h2⟩:=h
  obtain ⟨c,hc⟩:=Option.isSome_iff_exists.1 h2
  have h1':fn.name ≠ "runtime.NumGoroutine" := by simpa using h1
  simp [callFunc,hf,h1',hc]
def Upon (K:Act→World→Prop) (Q:Exit→Act→World→Prop) (a:Act) (dst:Option Tmp) (e:Ending) (w:World):Prop:=
 match e with
 |.returned v=>K (a.put dst v) w
 |.panicked chain=>Q (.panic chain) a w
 |.outgrown=>LetsOut Q
theorem zu {f:FuncId}{xs:Array Operand}{ts:Array TypeId}{K:Act→World→Prop}{E:Prop} (vs:List Value) (hf:goB P f=true) (hv:xs.toList.map a.eval=vs)
  (h:Calls P f vs.toArray w (Upon K Q a dst)):if Region.wanted ⟨dst,.call { callee:= .value (.func f),args:=xs,argTypes:=ts },t,pos,after,none⟩ (yielded ops a.tmps)=true then
   Oper.wp P ⟨dst,.call { callee:= .value (.func f),args:=xs,argTypes:=ts },t,pos,after,none⟩ a w K Q else E:=by
 rw [ac3 (kS _ rfl)]
 unfold Oper.wp
 have e1:(#[]++xs.map a.eval++#[]:Array Value)=vs.toArray:=by
  rw [← hv];cases xs;simp
 rw [execOp_call_go,e1,agL hf,Oper.upon_enter]
 exact h.mono fun e w' he=>by cases e <;> exact he
theorem pF {f:FuncId}{x1:Operand}{v1:Value}{ts:Array TypeId}{K:Act→World→Prop}{E:Prop} (hf:goB P f=true) (h1:a.eval x1=v1)
  (h:Calls P f #[v1] w (Upon K Q a dst)):if Region.wanted ⟨dst,.call { callee:= .value (.func f),args:=#[x1],argTypes:=ts },t,pos,after,none⟩ (yielded ops a.tmps)=true then
   Oper.wp P ⟨dst,.call { callee:= .value (.func f),args:=#[x1],argTypes:=ts },t,pos,after,none⟩ a w K Q else E:=
 zu [v1] hf (by simp [h1]) h
theorem gy {f:FuncId}{x1 x2:Operand}{v1 v2:Value}{ts:Array TypeId}{K:Act→World→Prop}{E:Prop} (hf:goB P f=true) (h1:a.eval x1=v1) (h2:a.eval x2=v2)
  (h:Calls P f #[v1,v2] w (Upon K Q a dst)):if Region.wanted ⟨dst,.call { callee:= .value (.func f),args:=#[x1,x2],argTypes:=ts },t,pos,after,none⟩ (yielded ops a.tmps)=true then
   Oper.wp P ⟨dst,.call { callee:= .value (.func f),args:=#[x1,x2],argTypes:=ts },t,pos,after,none⟩ a w K Q else E:=
 zu [v1,v2] hf (by simp [h1,h2]) h
theorem vI {f:FuncId}{x1 x2 x3:Operand}{v1 v2 v3:Value}{ts:Array TypeId}{K:Act→World→Prop}{E:Prop} (hf:goB P f=true) (h1:a.eval x1=v1) (h2:a.eval x2=v2) (h3:a.eval x3=v3)
  (h:Calls P f #[v1,v2,v3] w (Upon K Q a dst)):if Region.wanted ⟨dst,.call { callee:= .value (.func f),args:=#[x1,x2,x3],argTypes:=ts },t,pos,after,none⟩ (yielded ops a.tmps)=true then
   Oper.wp P ⟨dst,.call { callee:= .value (.func f),args:=#[x1,x2,x3],argTypes:=ts },t,pos,after,none⟩ a w K Q else E:=
 zu [v1,v2,v3] hf (by simp [h1,h2,h3]) h
theorem aby {f:FuncId}{x1 x2 x3 x4:Operand}{v1 v2 v3 v4:Value}{ts:Array TypeId}{K:Act→World→Prop}{E:Prop} (hf:goB P f=true) (h1:a.eval x1=v1) (h2:a.eval x2=v2) (h3:a.eval x3=v3) (h4:a.eval x4=v4)
  (h:Calls P f #[v1,v2,v3,v4] w (Upon K Q a dst)):if Region.wanted ⟨dst,.call { callee:= .value (.func f),args:=#[x1,x2,x3,x4],argTypes:=ts },t,pos,after,none⟩ (yielded ops a.tmps)=true then
   Oper.wp P ⟨dst,.call { callee:= .value (.func f),args:=#[x1,x2,x3,x4],argTypes:=ts },t,pos,after,none⟩ a w K Q else E:=
 zu [v1,v2,v3,v4] hf (by simp [h1,h2,h3,h4]) h
variable {late:List Nat}{i n:Nat}{oi:Oper}{l:Array Bool}
theorem Gq (i:Nat) (hi:ops.toList[i]?=some oi) (hc:(Region.noSelect ops && Region.free .any ops l i && (Region.ready .any ops l).contains i && sK ops l)=true)
  (hQ:∀ c a w,Q (.panic c) (a.put oi.dst v) w→Q (.panic c) a w) (hy:Yields P ops oi v a) {a':Act} (ha:a.put oi.dst v=a')
  (h:iI P ops Q late G n (l.setIfInBounds i true) a' w):iI P ops Q late G (n+1) l a w:=
 fA (by rw [← akg];exact hi) hc hQ hy (by rw [ha];exact h)
theorem eP (i:Nat) (hi:ops.toList[i]?=some oi) (hc:(Region.noSelect ops && Region.free .any ops l i && (Region.ready .any ops l).contains i && LG ops late i && sK ops l)=true)
  (hQ:∀ c a w,Q (.panic c) (a.put oi.dst v) w→Q (.panic c) a w) (hy:YieldsIf P ops G oi v a) (hG:G w) {a':Act} (ha:a.put oi.dst v=a')
  (h:iI P ops Q late G n (l.setIfInBounds i true) a' w):iI P ops Q late G (n+1) l a w:=
 nY (by rw [← akg];exact hi) hc hQ hy hG (by rw [ha];exact h)
theorem bV (i:Nat) (hi:ops.toList[i]?=some oi) (hr:Region.ready .any ops l=[i])
  (h:∀ K:Act→World→Prop,(∀ a' w',keeps late G i w w'→iI P ops Q late G n (l.setIfInBounds i true) a' w'→K a' w') →
   if Region.wanted oi (yielded ops a.tmps)=true then Oper.wp P oi a w K Q else K (a.put oi.dst undef) w):iI P ops Q late G (n+1) l a w:=
 nX (by rw [← akg];exact hi) hr h
end
section
variable {e:TypeId}{sz dS n c:Nat}{xs ys:List Value}{s:Operand}
def nP (P:Program) (t e:TypeId) (sz dS:Nat):Bool:=
 (match P.underlying t with|some (.slice e')=>e'==e|_=>false) &&
 (match P.info? e with
  |some i=>i.size==sz && i.bytes==dS && (match i.zero with|some z=>z.cells.size==sz|none=>false) && decide (0<sz)
  |none=>false)
theorem vg (h:nP P t e sz dS=true):P.underlying t=some (.slice e)∧∃ i z,P.info? e=some i∧i.zero=some z∧i.size=sz∧i.bytes=dS∧z.cells.size=sz∧0<sz:=by
 unfold nP at h
 rw [ajc]at h
 obtain ⟨h1,h2⟩:=h
 constructor
 ·split at h1
  ·rename_i e' he;rw [he];congr 2;simpa using h1
  ·cases h1
 ·split at h2
  ·rename_i i hi
   simp only [ajc,akr,adN]at h2
   obtain ⟨⟨⟨a1,a2⟩,a3⟩,a4⟩:=h2
   split at a3
   ·rename_i z hz
    exact ⟨i,z,hi,hz,a1,a2,by simpa using a3,a4⟩
   ·cases a3
  ·cases h2
theorem abY (cs zs:Array Value) (h:zs.size=cs.size):cs.zipIdx.foldl (fun acc (x:Value×Nat)=>acc.setIfInBounds (0+x.2) x.1) zs=cs:=by
 have key:∀ (k:Nat) (l:List Value) (acc:Array Value),acc.size=k+l.length→(∀ j,j<k→acc[j]?=cs[j]?)→(∀ j,l[j]?=cs[k+j]?)→k+l.length=cs.size →
   (l.zipIdx k).foldl (fun acc (x:Value×Nat)=>acc.setIfInBounds (0+x.2) x.1) acc=cs:=by
  intro k l
  induction l generalizing k with
  |nil=>
   intro acc h1 h2 _ h4
   simp only [List.zipIdx_nil,List.foldl_nil]
   simp only [ajn,akc]at h1 h4
   apply Array.ext_getElem?
   intro j
   by_cases hj:j<k
   ·exact h2 j hj
   ·rw [ak0 oQ,ak0 oQ]
  |cons v l ih=>
   intro acc h1 h2 h3 h4
   simp only [List.zipIdx_cons,List.foldl_cons]
   simp only [aja]at h1 h4
   rw [aen k]
   refine ih (k+1) (acc.setIfInBounds k v) (by rw [Array.size_setIfInBounds];omega) ?_ ?_ oQ
   ·intro j hj
    by_cases hjk:j=k
    ·subst hjk
     have:=h3 0
     simp only [alg,akc]at this
     rw [← this,Array.getElem?_setIfInBounds_self_of_lt oQ]
    ·rw [ak6 oQ]
     exact h2 j oQ
   ·intro j
    have:=h3 (j+1)
    rw [aj3]at this
    rw [this]
    congr 1
    omega
 have:=key 0 cs.toList zs (by simpa using h) (fun j hj=>absurd hj (Nat.not_lt_zero j)) (fun j=>by simp) (by simp)
 conv=>rhs;rw [← this]
 rw [← Array.foldl_toList,Array.toList_zipIdx]
theorem Xb (hb:nP P t e sz dS=true) (hsz:v.cells.size=sz) (hle:sz≤16777216) (w:World) :
  (Instr.buildSlice t 1 #[(0,v)]).run P w = .ok (.slice (some ⟨w.heap.size,0,none⟩) 1 1) (w.alloc (.cells v.cells e)):=by
 obtain ⟨hu,i,z,hi,hz,h1,h2,h3,h4⟩:=vg hb
 subst h1
 have hzv:(zeroValue e).run P w = .ok z w:=by simp [zeroValue,typeInfo,hi,hz]
 have hsz':(sizeOf e).run P w = .ok i.size w:=by simp [sizeOf,typeInfo,hi]
 have hnz:¬ (1 * i.size=0):=by omega
 have hle':¬ (1 * i.size>2^24):=by omega
 unfold Instr.buildSlice
 simp only [adO,ajO hu,ac2,hsz',abw hle',abw hnz,hzv,aeC]
 have hf:Instr.fill (fun i'=>some (i' * i.size,i.size)) ((Array.range (1 * i.size)).map (z.cells[· % z.cells.size]!)) [(0,v)]=some v.cells:=by
  have hs1:((Array.range (1 * i.size)).map (z.cells[· % z.cells.size]!)).size=v.cells.size:=by simp [hsz]
  unfold Instr.fill
  simp only [Nat.zero_mul]
  have hc:¬ ((v.cells.size≠i.size || 0+v.cells.size>((Array.range (1 * i.size)).map (z.cells[· % z.cells.size]!)).size)=true):=by
   rw [hs1];simp [hsz]
  simp only [abw hc]
  unfold Instr.fill
  congr 1
  exact abY _ _ hs1
 simp only [hf]
 simp [newRow,go_sem]
theorem nH (hb:nP P ty e sz dS=true) (hs:Sat w0 w L) (hy:a.eval x=v) (hcs:v.cells=cs) (hsz:cs.size=sz) (hle:sz≤16777216)
  (hK:∀ b w',Sat w0 w' (pt b (.cells cs e (0,0))::L)→wpList P ops Q rest (a.put dst (.slice (some ⟨b,0,none⟩) 1 1)) w'):wpList P ops Q (⟨dst,.buildSlice ty 1 #[(0,x)],t,pos,after,none⟩::rest) a w:=by
 subst hcs
 refine ajx rfl fun _ hK'=>?_
 have hS:=hs.alloc (.cells v.cells e)
 unfold Oper.wp execOp
 simp only [hy,ajR,ag8,ajP,adO,aeC,Xb hb hsz hle w,ac2]
 exact hK' _ _ (hK _ _ hS)
theorem aiC (e:TypeId) (sz dS:Nat) (hb:nP P ty e sz dS=true) (hs:Sat w0 w L) (hv:a.eval s=v) (hy:a.eval y = .slice (some ⟨b,0,none⟩) n c){R2:List aG} (p:Pick (aC e sz v xs) L R) (p2:Pick (pt b (.cells cs T (0,0))) R R2)
  (hn:cs.size=n * sz) (h0:0<n) (h1:cs.toList.all (·.oneCell')=true) (h63:xs.length+cs.size≤maxLen) (hby:(xs.length+cs.size) * dS≤140737488355328)
  (hK:∀ b' n' c' w',Sat w0 w' (aC e sz (.slice (some ⟨b',0,none⟩) n' c') (xs++cs.toList)::R2)→wpList P ops Q rest (a.put dst (.slice (some ⟨b',0,none⟩) n' c')) w') :
  wpList P ops Q (⟨dst,.call { callee:= .builtin .append,args:=#[s,y],argTypes:=#[ty,ty] },t,pos,after,none⟩::rest) a w:=by
 obtain ⟨hu,i,z,hi,hz,e1,e2,e3,e4⟩:=vg hb
 subst e2
 have hne:xs++cs.toList≠[]:=by
  intro h
  have:=aje List.length h
  simp only [aal,adu,ajn]at this
  have:0<n * sz:=Nat.mul_pos h0 e4
  omega
 have hrd:bg sz (.slice (some ⟨b,0,none⟩) n c) cs.toList w:=⟨_,n,c,rfl,by simpa using hn,fun j x hj=>⟨_,rfl,by
  rw [o9]
  exact ((hs.pick p).pick (aW p2)).cellAt j x (by simpa using hj)⟩⟩
 refine wW (w0:=w0) rfl s y ty rfl e i z hu hi hz e1 e3 e4 hv hy (fun u hu=>(ajE.1 h1) u hu) (hs.pick p) hrd (by simpa using h63) (by simpa using hby) ?_
 intro v' w' hS hv'
 obtain ⟨b',n',c',rfl⟩:=hv' hne
 exact hK b' n' c' w' (hS.pick (aW p2)).drop
theorem nG (e:TypeId) (sz dS:Nat) (hb:nP P ty e sz dS=true) (hs:Sat w0 w L) (hv:a.eval s=v) (hy:a.eval y = .slice (some ⟨b,0,none⟩) n c){R2:List aG} (p:Pick (aC e sz v xs) L R) (p2:Pick (pt b (.cells cs T (0,0))) R R2)
  (hn:cs.size=n * sz) (h0:1≤n) (h1:cs.toList.all (·.oneCell')=true) (h63:xs.length≤2147483648) (h64:cs.size≤65536) (hby:dS≤65000) (hys:cs.toList=ys)
  (hK:∀ b' n' c' w',Sat w0 w' (aC e sz (.slice (some ⟨b',0,none⟩) n' c') (xs++ys)::R2)→wpList P ops Q rest (a.put dst (.slice (some ⟨b',0,none⟩) n' c')) w') :
  wpList P ops Q (⟨dst,.call { callee:= .builtin .append,args:=#[s,y],argTypes:=#[ty,ty] },t,pos,after,none⟩::rest) a w:=by
 subst hys
 refine aiC e sz dS hb hs hv hy p p2 hn h0 h1 (by unfold maxLen;omega) ?_ hK
 calc (xs.length+cs.size) * dS≤(2147483648+65536) * 65000:=akI oQ hby
  _≤140737488355328:=by decide
end
end
end Go.Proofs.YtiglchkhikciiaaGreatDoor
namespace Go.Sl
open Go
section
variable {w0 w:World}{A:aG}{L M R:List aG}
theorem aY (p:Pick A L R:=by first|((repeat (first|with_reducible apply aT|with_reducible apply aW));done)|((repeat (first|apply aT|apply aW));done)|fail):Pick A L R:=p
theorem jH (p:Sub L M:=by repeat (first|(with_reducible apply N9)|((with_reducible apply Oa);(· first|((repeat (first|with_reducible apply aT|with_reducible apply aW));done)|((repeat (first|apply aT|apply aW));done)|fail))|(with_reducible apply N8))):Sub L M:=p
theorem Sat.pk (h:Sat w0 w L) (p:Pick A L R:=by first|((repeat (first|with_reducible apply aT|with_reducible apply aW));done)|((repeat (first|apply aT|apply aW));done)|fail):Sat w0 w (A::R):=h.pick p
theorem Sat.sb (h:Sat w0 w L) (p:Sub L M:=by repeat (first|(with_reducible apply N9)|((with_reducible apply Oa);(· first|((repeat (first|with_reducible apply aT|with_reducible apply aW));done)|((repeat (first|apply aT|apply aW));done)|fail))|(with_reducible apply N8))):Sat w0 w M:=h.sub p
theorem Ro.op {p:World→Prop} (h:Ro w0 (A::R) p) (k:Pick A L R:=by first|((repeat (first|with_reducible apply aT|with_reducible apply aW));done)|((repeat (first|apply aT|apply aW));done)|fail):Ro w0 L p:=h.sD k
theorem Ro.os {p:World→Prop} (h:Ro w0 M p) (k:Sub L M:=by repeat (first|(with_reducible apply N9)|((with_reducible apply Oa);(· first|((repeat (first|with_reducible apply aT|with_reducible apply aW));done)|((repeat (first|apply aT|apply aW));done)|fail))|(with_reducible apply N8))):Ro w0 L p:=h.of_sub k
end
end Go.Sl
namespace Go.Proofs.YtiglchkhikciiaaGreatDoor
open Go Go.Sl Go.ay Go.MapKept Go.RowKit
section
variable {P:Program}{ops:Array Oper}{late:List Nat}{G:World→Prop}{n:Nat}{l:Array Bool}{a:Act}{w:World}{oi:Oper}{v:Value}{Q:Exit→Act→World→Prop}
theorem rp (i:Nat) (hi:ops.toList[i]?=some oi:=by conv=>lhs;whnf) (hc:(Region.noSelect ops && Region.free .any ops l i && (Region.ready .any ops l).contains i && sK ops l)=true:=by kernel_rfl)
  (hQ:∀ c a w,Q (.panic c) (a.put oi.dst v) w→Q (.panic c) a w:=by intro _ _ _ h;exact h) (hy:Yields P ops oi v a) {a':Act} (ha:a.put oi.dst v=a':=by go_frame;first|done|rfl)
  (h:iI P ops Q late G n (l.setIfInBounds i true) a' w):iI P ops Q late G (n+1) l a w:=Gq i hi hc hQ hy ha h
theorem rt (i:Nat) (hi:ops.toList[i]?=some oi:=by conv=>lhs;whnf) (hc:(Region.noSelect ops && Region.free .any ops l i && (Region.ready .any ops l).contains i && LG ops late i && sK ops l)=true:=by kernel_rfl)
  (hQ:∀ c a w,Q (.panic c) (a.put oi.dst v) w→Q (.panic c) a w:=by intro _ _ _ h;exact h) (hy:YieldsIf P ops G oi v a:=by first|exact ah7 (by conv=>lhs;whnf) au (by intro wq hq;first|exact hq|exact hq.1|exact hq.2|exact hq.2.1|exact hq.2.2|exact hq.2.2.1|exact hq.2.2.2|exact hq.2.2.2.1|exact hq.2.2.2.2)|(refine Or.inl ⟨by rfl,?_⟩;(intro wq hq;go_split_ands;go_simp);first|done|(with_reducible rfl))) (hG:G w:=by assumption) {a':Act} (ha:a.put oi.dst v=a':=by go_frame;first|done|rfl)
  (h:iI P ops Q late G n (l.setIfInBounds i true) a' w):iI P ops Q late G (n+1) l a w:=eP i hi hc hQ hy hG ha h
end
end Go.Proofs.YtiglchkhikciiaaGreatDoor
namespace Go.Sl
open Go
theorem eF {A B:aG}{L M:List aG} (p:ng A B L M:=by first|((repeat (first|with_reducible apply bZ|with_reducible apply jh));done)|((repeat (first|apply bZ|apply jh));done)|fail):ng A B L M:=p
theorem ak {α:Sort _}{a b:α} (h:a=b:=by conv=>lhs;whnf):a=b:=h
theorem dh {α:Type}{P:Program}{s:Sem α}{v:α} (h:∀ w,s.run P w = .ok v w:=by ((intro wq;go_simp);first|done|(with_reducible rfl))):∀ w,s.run P w = .ok v w:=h
end Go.Sl
namespace Go.Proofs.YtiglchkhikciiaaGreatDoor
open Go Go.Sl Go.ay Go.MapKept Go.RowKit
section
variable {P:Program}{ops:Array Oper}{a:Act}{dst:Option Tmp}{t ty:TypeId}{pos:String}{after:Array Edge}{x y:Operand}{v vx vy:Value}{ad:Addr}{fl:Nat}{bo:BinOp}{tz:TypeId}{g:Option (Nat×Bool)}
theorem aX (hx:a.eval x=v:=by conv=>lhs;whnf):Yields P ops ⟨dst,.move x,t,pos,after,none⟩ v a:=ai0 hx
theorem cO (hx:a.eval x=vx:=by conv=>lhs;whnf) (hr:∀ w,(Instr.fieldAt ty vx fl).run P w = .ok v w:=by ((intro wq;go_simp);first|done|(with_reducible rfl))):Yields P ops ⟨dst,.fieldAddr ty x fl,t,pos,after,none⟩ v a:=aiY hx hr
theorem dZ (hx:a.eval x = .pointer (some ad):=by conv=>lhs;whnf):Yields P ops ⟨dst,.nilCheck x,t,pos,after,none⟩ (.pointer (some ad)) a:=ai1 hx
theorem gX (hx:a.eval x=vx:=by conv=>lhs;whnf) (hy:a.eval y=vy:=by conv=>lhs;whnf) (hr:∀ w,(Instr.indexAt ty vx vy).run P w = .ok v w:=by ((intro wq;go_simp);first|done|(with_reducible rfl))):Yields P ops ⟨dst,.indexAddr ty x y,t,pos,after,none⟩ v a:=aiZ hx hy hr
theorem fJ (hx:a.eval x=v:=by conv=>lhs;whnf):Yields P ops ⟨dst,.assign x,t,pos,after,none⟩ v a:=aiX hx
theorem jm (hx:a.eval x=vx:=by conv=>lhs;whnf) (hy:a.eval y=vy:=by conv=>lhs;whnf) (hr:∀ w,((do eqGuard bo ty x y vx vy;binOp bo ty vx vy):Sem Value).run P w = .ok v w:=by ((intro wq;go_simp);first|done|(with_reducible rfl))):Yields P ops ⟨dst,.binOp bo ty x y tz,t,pos,after,none⟩ v a:=wY hx hy hr
end
section
variable {P:Program}{ops:Array Oper}{late:List Nat}{G:World→Prop}{n:Nat}{l:Array Bool}{a a':Act}{w:World}{oi:Oper}{v:Value}{Q:Exit→Act→World→Prop}
theorem rP (i:Nat) (h:iI P ops Q late G n (l.setIfInBounds i true) a' w) (hi:ops.toList[i]?=some oi:=by conv=>lhs;whnf) (hc:(Region.noSelect ops && Region.free .any ops l i && (Region.ready .any ops l).contains i && sK ops l)=true:=by kernel_rfl) (hQ:∀ c a w,Q (.panic c) (a.put oi.dst v) w→Q (.panic c) a w:=by intro _ _ _ h;exact h) (y:Yields P ops oi v a) (ha:a.put oi.dst v=a':=by go_frame;first|done|rfl):iI P ops Q late G (n+1) l a w:=Gq i hi hc hQ y ha h
end
section
variable {P:Program}{w0 w:World}{L L' R:List aG}{b:Nat}{ops:Array Oper}{rest:List Oper}{a:Act}{Q:Exit→Act→World→Prop}{dst:Option Tmp}{t ty T:TypeId}{pos:String}{after:Array Edge}{x y:Operand}{cs:Array Value}{v:Value}{o:Nat}
theorem ldQ (h:wpList P ops Q rest (a.put dst v) w) (hs:Sat w0 w L:=by assumption) (hx:a.eval x = .pointer (some ⟨b,o,none⟩):=by rfl) (p:Pick (pt b (.cells cs T (0,0))) L R:=by exact aY) (hlt:o+1≤cs.size:=by exact bQ) (hv:cs.getD o undef=v:=by exact ak) (h1:wu P ty=true:=by kernel_rfl):wpList P ops Q (⟨dst,.load ty x,t,pos,after,none⟩::rest) a w:=dV hs hx p hlt hv h1 h
theorem stQ (hK:∀ w',Sat w0 w' L'→wpList P ops Q rest (a.put dst undef) w') (hs:Sat w0 w L:=by assumption) (hx:a.eval x = .pointer (some ⟨b,o,none⟩):=by rfl) (hy:a.eval y=v:=by exact ak){cs':Array Value} (hcs:dM cs o v.cells.toList=cs':=by first|(simp only [dM,Value.cells];(try go_frame);first|done|rfl)|rfl) (u:ng (pt b (.cells cs T (0,0))) (pt b (.cells cs' T (0,0))) L L':=by exact eF) (hfit:o+v.cells.size≤cs.size:=by exact bQ) (hi:(P.info? ty).map (·.size)=some v.cells.size:=by kernel_rfl) (h1:v.cells.toList.all (·.oneCell')=true:=by rfl):wpList P ops Q (⟨dst,.store ty x y,t,pos,after,none⟩::rest) a w:=eY hs hx hy hcs u hfit hi h1 hK
end
section
variable {P:Program}{w0 w:World}{L L' R F:List aG}{b:Nat}{ops:Array Oper}{rest:List Oper}{a:Act}{Q:Exit→Act→World→Prop}
variable {dst:Option Tmp}{t ty T e:TypeId}{pos:String}{after:Array Edge}{x y s:Operand}{cs:Array Value}{v:Value}{o n c sz dS:Nat}{xs ys:List Value}{K:Act→World→Prop}{E:Prop}
theorem xU {op:Oper} (hg:op.guard=none) (h:Oper.wp P op a w K Q):if Region.wanted op (yielded ops a.tmps)=true then Oper.wp P op a w K Q else E:=by
 rw [ac3 (kS _ hg)];exact h
theorem QU (hb:nP P ty e sz dS=true) (hs:Sat w0 w L) (hy:a.eval x=v) (hcs:v.cells=cs) (hsz:cs.size=sz) (hle:sz≤16777216)
  (hK:∀ b w',Sat w0 w' (pt b (.cells cs e (0,0))::L)→K (a.put dst (.slice (some ⟨b,0,none⟩) 1 1)) w') :
  if Region.wanted ⟨dst,.buildSlice ty 1 #[(0,x)],t,pos,after,none⟩ (yielded ops a.tmps)=true then Oper.wp P ⟨dst,.buildSlice ty 1 #[(0,x)],t,pos,after,none⟩ a w K Q else E:=by
 subst hcs
 refine xU rfl ?_
 have hS:=hs.alloc (.cells v.cells e)
 unfold Oper.wp execOp
 simp only [hy,ajR,ag8,ajP,adO,aeC,Xb hb hsz hle w,ac2]
 exact hK _ _ hS
theorem QS (e:TypeId) (sz dS:Nat) (hb:nP P ty e sz dS=true) (hs:Sat w0 w L) (hv:a.eval s=v) (hy:a.eval y = .slice (some ⟨b,0,none⟩) n c){R2:List aG} (p:Pick (aC e sz v xs) L R) (p2:Pick (pt b (.cells cs T (0,0))) R R2)
  (hn:cs.size=n * sz) (h0:1≤n) (h1:cs.toList.all (·.oneCell')=true) (h63:xs.length≤2147483648) (h64:cs.size≤65536) (hby:dS≤65000) (hys:cs.toList=ys)
  (hK:∀ b' n' c' w',Sat w0 w' (aC e sz (.slice (some ⟨b',0,none⟩) n' c') (xs++ys)::R2)→K (a.put dst (.slice (some ⟨b',0,none⟩) n' c')) w') :
  if Region.wanted ⟨dst,.call { callee:= .builtin .append,args:=#[s,y],argTypes:=#[ty,ty] },t,pos,after,none⟩ (yielded ops a.tmps)=true then
   Oper.wp P ⟨dst,.call { callee:= .builtin .append,args:=#[s,y],argTypes:=#[ty,ty] },t,pos,after,none⟩ a w K Q else E:=by
 refine xU rfl ?_
 subst hys
 obtain ⟨hu,i,z,hi,hz,e1,e2,e3,e4⟩:=vg hb
 subst e2
 have hne:xs++cs.toList≠[]:=by
  intro h
  have:=aje List.length h
  simp only [aal,adu,ajn]at this
  have:0<n * sz:=Nat.mul_pos h0 e4
  omega
 have hrd:bg sz (.slice (some ⟨b,0,none⟩) n c) cs.toList w:=⟨_,n,c,rfl,by simpa using hn,fun j x hj=>⟨_,rfl,by
  rw [o9]
  exact ((hs.pick p).pick (aW p2)).cellAt j x (by simpa using hj)⟩⟩
 have hcl:cs.toList.length=cs.size:=adu
 have h63':xs.length+cs.toList.length≤maxLen:=by rw [hcl];unfold maxLen;omega
 have zF:(xs.length+cs.toList.length) * i.bytes≤140737488355328:=by
  rw [hcl]
  exact adr (akI (show xs.length+cs.size≤2147483648+65536 by omega) hby) aN
 refine OB (w0:=w0) s y ty rfl e i z hu hi hz e1 e3 e4 hv hy (fun u hu=>(ajE.1 h1) u hu) (hs.pick p) hrd h63' zF ?_
 intro v' w' hS hv'
 obtain ⟨b',n',c',rfl⟩:=hv' hne
 exact hK b' n' c' w' (hS.pick (aW p2)).drop
def qW (P:Program) (t:TypeId):Option (List (Nat×Nat)):=match P.underlying t with
 |some (.struct fields)=>fields.toList.mapM fun f=>(P.info? f.type).map fun i=>(f.offset,i.size)
 |_=>none
theorem run_places (fields:List Field):∀ (pl:List (Nat×Nat)),(fields.mapM fun f=>(P.info? f.type).map fun i=>(f.offset,i.size))=some pl →
  ((fields.mapM fun f=>do pure (f.offset,← sizeOf f.type)):Sem (List (Nat×Nat))).run P w = .ok pl w:=by
 induction fields with
 |nil=>intro pl h;cases h;rfl
 |cons f fields ih=>
  intro pl h
  rw [List.mapM_cons]at h ⊢
  cases hi:P.info? f.type with
  |none=>simp [hi]at h
  |some i=>
   rw [hi]at h
   simp only [aj7,Option.bind_eq_bind,Option.bind_some,Option.bind_eq_some_iff,Option.pure_def,Option.some.injEq]at h
   obtain ⟨pl',h1,rfl⟩:=h
   have hs:(sizeOf f.type).run P w = .ok i.size w:=by simp [sizeOf,typeInfo,hi]
   simp only [adO,hs,ac2,aeC,ih pl' h1]
def Dz (pl:List (Nat×Nat)):Array Value→List (Nat×Value)→Array Value
 |cs,[]=>cs
 |cs,(i,v)::r=>Dz pl (dM cs (pl.getD i (0,0)).1 v.cells.toList) r
theorem Kz:∀ (vs:List Value) (k:Nat) (off:Nat) (cs:Array Value),(vs.zipIdx k).foldl (fun cs (x:Value×Nat)=>cs.setIfInBounds (off+x.2) x.1) cs=dM cs (off+k) vs
 |[],_,_,_=>rfl
 |v::vs,k,off,cs=>by
  rw [List.zipIdx_cons,List.foldl_cons,Kz vs (k+1) off];rfl
theorem Rn (pl:List (Nat×Nat)):∀ (parts:List (Nat×Value)) (cs:Array Value),(∀ p∈parts,∃ off,pl[p.1]?=some (off,p.2.cells.size)∧off+p.2.cells.size≤cs.size) →
  Instr.fill (pl.toArray[·]?) cs parts=some (Dz pl cs parts)
 |[],_,_=>rfl
 |(i,v)::r,cs,h=>by
  obtain ⟨off,h1,h2⟩:=h _ (.head _)
  unfold Instr.fill
  have hp:pl.toArray[i]?=some (off,v.cells.size):=by simpa using h1
  simp only [hp]
  have hc:¬ ((v.cells.size≠v.cells.size || off+v.cells.size>cs.size)=true):=by simp;omega
  rw [abw hc]
  have hf:v.cells.zipIdx.foldl (fun cs (c,j)=>cs.setIfInBounds (off+j) c) cs=dM cs off v.cells.toList:=by
   rw [← Array.foldl_toList,Array.toList_zipIdx]
   exact Kz _ 0 off cs
  rw [hf,Rn pl r _ (fun p hp=>by
   obtain ⟨o,q1,q2⟩:=h p (.tail _ hp)
   exact ⟨o,q1,by rw [jM];exact q2⟩)]
  have hg:(pl.getD i (0,0)).1=off:=by rw [adP,h1];rfl
  simp only [Dz,hg]
theorem ak8 {z:Value}{pl:List (Nat×Nat)} (parts:List (Nat×Value)) (hp:qW P t=some pl) (hz:jy P t=some z)
  (hfit:∀ p∈parts,∃ off,pl[p.1]?=some (off,p.2.cells.size)∧off+p.2.cells.size≤z.cells.size) (w:World) :
  (Instr.build t parts.toArray).run P w = .ok (.agg (Dz pl z.cells parts)) w:=by
 unfold qW at hp
 split at hp
 ·rename_i fields hu
  have hm:((fields.mapM fun f=>do pure (f.offset,← sizeOf f.type)):Sem (Array (Nat×Nat))).run P w = .ok pl.toArray w:=by
   rw [Array.mapM_eq_mapM_toList]
   rw [map_eq_pure_bind,adO,run_places fields.toList pl hp]
   rfl
  unfold Instr.build
  simp only [adO,GN hz w,ac2,ajO hu,hm,Rn pl parts z.cells hfit,aeC]
 ·cases hp
theorem Aw {i1 i2 i3:Nat}{x1 x2 x3:Operand}{v1 v2 v3:Value} (h1:a.eval x1=v1) (h2:a.eval x2=v2) (h3:a.eval x3=v3) (hr:∀ w,(Instr.build ty #[(i1,v1),(i2,v2),(i3,v3)]).run P w = .ok v w) :
  Yields P ops ⟨dst,.build ty #[(i1,x1),(i2,x2),(i3,x3)],t,pos,after,none⟩ v a:=
 .inl ⟨kS _ rfl,fun w=>by
  simp only [execOp,ajR,ag8,ajP,h1,h2,h3,adO,hr,ac2,aeC]⟩
theorem ig {G:World→Prop}{o:Nat} (ks:List Value) (hx:a.eval x = .pointer (some ⟨b,o,none⟩)){d:TypeDesc} (hu:P.underlying ty=some d) (hd:d.isRow=true) (hi:(P.info? ty).map (·.size)=some ks.length) (hG:∀ w,G w→w.rangeAt b o ks) :
  YieldsIf P ops G ⟨dst,.load ty x,t,pos,after,none⟩ (.agg ks.toArray) a:=
 yieldsIf_load_mid (kS _ rfl) ty x rfl b o hx ks d hG hu hd hi
end
section
variable {w0 w:World}{F:List aG}{v lv dv:Value}{sz:Nat}
theorem nU {a:Option Addr}{n c:Nat}{xs:List Value} (h:bg sz (.slice a n c) xs w){i:Nat}{x:Value} (hi:xs[i]?=some x) :
  ∃ bk off,a=some ⟨bk,off,none⟩∧∀ j y,xs[j]?=some y→w.cell? ⟨bk,off+j,none⟩=some y:=by
 obtain ⟨a',n',c',he,hl,hx⟩:=h
 cases he
 obtain ⟨b,rfl,hc⟩:=hx i x hi
 have hlt:i<xs.length:=(abl.1 hi).1
 obtain ⟨y,hy⟩:∃ y,xs[0]?=some y:=⟨xs[0]'oQ,aak _⟩
 obtain ⟨b',hb',hc0⟩:=hx 0 y hy
 cases hb'
 obtain ⟨bk,off,spot⟩:=b
 have hs:spot=none:=by simpa [Addr.add] using World.cell?_spot hc0
 subst hs
 refine ⟨bk,off,rfl,fun j y hj=>?_⟩
 obtain ⟨b'',acS,hcj⟩:=hx j y hj
 cases acS
 rw [Addr.add_mid]at hcj
 exact hcj
def abN (es:List (aj.aP×Value)):List Value:=es.flatMap fun p=>kW p.1 p.2
theorem Rf (x:aj.aP) (dv:Value) (hk:x.key.length=32):(kW x dv).length=34:=by simp [kW,aA,hk]
theorem abM (x:aj.aP) (dv:Value){j:Nat}{y:Value} (h:(aA x.key)[j]?=some y):(kW x dv)[1+j]?=some y:=by
 unfold kW
 rw [alm,aj3,adV (abl.1 h).1];exact h
theorem abK (x:aj.aP) (dv:Value) (hk:x.key.length=32):(kW x dv)[33]?=some dv:=by
 unfold kW
 rw [aj3,adQ (by rw [aV];omega),aV,hk];rfl
theorem Gg:qW Tryz.prog 78=some [(0,1),(1,32),(33,1)]:=by kernel_rfl
def uO:Value:= .agg (dG aj.zeroE (.slice none 0 0))
theorem yV:jy Tryz.prog 78=some uO:=by kernel_rfl
theorem afC (cs:Array Value) (hs:cs.size=34) (u dv:Value) (kl:List Value) (hk:kl.length=32):(dM (dM (dM cs 0 [u]) 1 kl) 33 [dv]).toList=u::(kl++[dv]):=by
 have hcl:cs.toList.length=34:=by simpa using hs
 rw [jU _ _ _ (by rw [jM,jM];simp;omega),jU _ _ _ (by rw [jM];omega),jU _ _ _ (by simp;omega)]
 simp only [ajD,ajd,adX,aen]
 rw [List.singleton_append,alk,ajD,hk,show 1+32=32+1 by omega,ak5,ak3]
 have h1:([u]++kl++cs.toList.drop (1+32)).length=34:=by simp [hk,hcl]
 rw [ajb (by simp [hk]),aeb (by simp [hk]),aiz oQ]
 simp
theorem nT {cs ds:Array Value} (h:cs.toList=ds.toList):cs=ds:=Array.toList_inj.1 h
set_option maxRecDepth 20000 in
theorem Xd (e:aj.aP) (hk:e.key.length=32) (da:Option Addr) (dn dc:Nat) (w:World) :
  (Instr.build 78 #[(0,.int .i64 e.tag),(1,.agg (aA e.key).toArray),(2,.slice da dn dc)]).run Tryz.prog w = .ok (.agg (dG e (.slice da dn dc))) w:=by
 have hz:(dG aj.zeroE (.slice none 0 0)).size=34:=dW _ _ rfl
 have hks:(aA e.key).toArray.size=32:=by simp [aA,hk]
 have h:=ak8 (P:=Tryz.prog) [(0,.int .i64 e.tag),(1,.agg (aA e.key).toArray),(2,.slice da dn dc)] Gg yV (by
  intro p hp
  simp only [aer,ajU,alb]at hp
  have hzz:uO.cells.size=34:=hz
  rw [hzz]
  rcases hp with rfl|rfl|rfl
  ·exact ⟨0,rfl,by show 0+1≤34;omega⟩
  ·refine ⟨1,?_,?_⟩
   ·show some (1,32)=some (1,(aA e.key).toArray.size);rw [hks]
   ·show 1+(aA e.key).toArray.size≤34;rw [hks];omega
  ·exact ⟨33,rfl,by show 33+1≤34;omega⟩) w
 refine h.trans ?_
 congr 2
 apply nT
 exact afC _ hz _ _ _ (show (aA e.key).toArray.toList.length=32 by rw [adM,aV,hk])
theorem V3 (cs:Array Value) (vs:List Value) (h:vs.length=cs.size):dM cs 0 vs=vs.toArray:=by
 apply nT
 rw [jU _ _ _ oQ,ajD,ajd,aiz (by simp;omega),afo,adM]
end
section
variable {w0 w:World}{L L' R:List aG}{b:Nat}{ops:Array Oper}{rest:List Oper}{a:Act}{Q:Exit→Act→World→Prop}
variable {dst:Option Tmp}{t T:TypeId}{pos:String}{after:Array Edge}{x y:Operand}{cs:Array Value}{v:Value}{e:aj.aP}{da:Option Addr}{dn dc:Nat}
theorem abJ (e:aj.aP) (a:Option Addr) (n c:Nat):(dG e (.slice a n c)).all (·.oneCell')=true:=by
 rw [← Array.all_toList]
 unfold dG kW
 rw [adM,alE,ajZ]
 have:(aA e.key).all (·.oneCell')=true:=ajE.2 (tX _)
 rw [this];rfl
theorem CY:(Tryz.prog.info? 78).map (·.size)=some 34:=by kernel_rfl
theorem jI (hs:Sat w0 w L) (hx:a.eval x = .pointer (some ⟨b,0,none⟩)) (hy:a.eval y = .agg (dG e (.slice da dn dc))) (hk:e.key.length=32) (u:ng (pt b (.cells cs T (0,0))) (pt b (.cells (dG e (.slice da dn dc)) T (0,0))) L L') (hcs:cs.size=34)
  (hK:∀ w',Sat w0 w' L'→wpList Tryz.prog ops Q rest (a.put dst undef) w'):wpList Tryz.prog ops Q (⟨dst,.store 78 x y,t,pos,after,none⟩::rest) a w:=by
 obtain ⟨R',h2,h3⟩:=u
 have hz:=dW e (.slice da dn dc) hk
 refine DY (w0:=w0) rfl 78 x y rfl 0 (.agg (dG e (.slice da dn dc))) hx hy (show 0+(dG e (.slice da dn dc)).size≤cs.size by omega) (show _=some (dG e (.slice da dn dc)).size by rw [hz];exact CY) (abJ _ _ _ _) (hs.perm h2) fun w' hS=>hK w' ?_
 have he:dM cs 0 (Value.agg (dG e (.slice da dn dc))).cells.toList=dG e (.slice da dn dc):=by
  show dM cs 0 (dG e (.slice da dn dc)).toList=_
  rw [V3 _ _ (by simp;omega)]
 rw [he]at hS
 exact hS.perm h3.symm
theorem DV (hs:Sat w0 w L) (hx:a.eval x = .pointer (some ⟨b,0,none⟩)) (p:Pick (pt b (.cells (dG e (.slice da dn dc)) T (0,0))) L R) (hk:e.key.length=32)
  (h:wpList Tryz.prog ops Q rest (a.put dst (.agg (dG e (.slice da dn dc)))) w):wpList Tryz.prog ops Q (⟨dst,.load 78 x,t,pos,after,none⟩::rest) a w:=
 gI hs hx p Tryz.underlying78 rfl (by rw [dW e _ hk];exact CY) h
theorem oH (h:Stop (wpList Tryz.prog ops Q (⟨dst,.store 78 x y,t,pos,after,none⟩::rest) a w)):wpList Tryz.prog ops Q (⟨dst,.store 78 x y,t,pos,after,none⟩::rest) a w:=h.out
theorem Bz (h:Stop (wpList Tryz.prog ops Q (⟨dst,.load 78 x,t,pos,after,none⟩::rest) a w)):wpList Tryz.prog ops Q (⟨dst,.load 78 x,t,pos,after,none⟩::rest) a w:=h.out
theorem ag7 (w:World):(Instr.build 78 #[]).run Tryz.prog w = .ok uO w:=ak8 (P:=Tryz.prog) [] Gg yV (by simp) w
theorem rD (hs:Sat w0 w L) (hK:∀ b w',Sat w0 w' (pt b (.cells (dG aj.zeroE (.slice none 0 0)) 78 (0,0))::L)→wpList Tryz.prog ops Q rest (a.put dst (.pointer (some ⟨b,0,none⟩))) w') :
  wpList Tryz.prog ops Q (⟨dst,.alloc 78,t,pos,after,none⟩::rest) a w:=dU yV hs rfl hK
theorem qI (h:Stop (wpList Tryz.prog ops Q (⟨dst,.alloc 78,t,pos,after,none⟩::rest) a w)):wpList Tryz.prog ops Q (⟨dst,.alloc 78,t,pos,after,none⟩::rest) a w:=h.out
theorem DJ {fn:Func}{p u:Tmp}{tmps:Array Value} (hf:fn.results=#[.cell p 78,.tmp u]) (hs:Sat w0 w L) (hp:tmps.getD p undef = .pointer (some ⟨b,0,none⟩)) (k:Pick (pt b (.cells (dG e (.slice da dn dc)) T (0,0))) L R) (hk:e.key.length=32) :
  (results fn tmps).run Tryz.prog w = .ok (.tuple #[.agg (dG e (.slice da dn dc)),tmps.getD u undef]) w:=
 lN hf hs hp k Tryz.underlying78 rfl (by rw [dW e _ hk];exact CY)
end
section
variable {P:Program}{w0 w:World}{L:List aG}{ops:Array Oper}{rest:List Oper}{a:Act}{Q:Exit→Act→World→Prop}{dst:Option Tmp}{t ty e:TypeId}{pos:String}{after:Array Edge}{x y:Operand}{g:Nat×Bool}{op:Op}{sz dS n:Nat}{v:Value}{zs:List Value}
theorem XY (hw:Region.wanted ⟨dst,op,t,pos,after,some g⟩ (yielded ops a.tmps)=true) (h:wpList P ops Q (⟨dst,op,t,pos,after,none⟩::rest) a w):wpList P ops Q (⟨dst,op,t,pos,after,some g⟩::rest) a w:=by
 unfold wpList at h ⊢
 rw [ac3 hw]
 rw [ac3 (kS _ rfl)]at h
 exact h
theorem ail {xs:Array (Nat×Operand)} (h:Stop (wpList P ops Q (⟨dst,.build ty xs,t,pos,after,some g⟩::rest) a w)):wpList P ops Q (⟨dst,.build ty xs,t,pos,after,some g⟩::rest) a w:=h.out
theorem ain (h:Stop (wpList P ops Q (⟨dst,.load ty x,t,pos,after,some g⟩::rest) a w)):wpList P ops Q (⟨dst,.load ty x,t,pos,after,some g⟩::rest) a w:=h.out
theorem Ig {xs:Array (Nat×Operand)} (h:Stop (wpList P ops Q (⟨dst,.build ty xs,t,pos,after,none⟩::rest) a w)):wpList P ops Q (⟨dst,.build ty xs,t,pos,after,none⟩::rest) a w:=h.out
theorem yR {xs:Array (Nat×Operand)}{ps:Array (Nat×Value)} (h1:xs.map (fun p=>(p.1,a.eval p.2))=ps) (hr:∀ w,(Instr.build ty ps).run P w = .ok v w) (h:wpList P ops Q rest (a.put dst v) w) :
  wpList P ops Q (⟨dst,.build ty xs,t,pos,after,none⟩::rest) a w:=
 ajx rfl fun _ hK=>by
  unfold Oper.wp execOp
  simp only [h1,adO,hr,ac2,aeC]
  exact hK _ _ h
end
end Go.Proofs.YtiglchkhikciiaaGreatDoor
namespace Go.Tab
open Go.aj (Bs num)
structure Slot (V:Type) where
 st:Nat
 key:Bs
 val:V
def home (k:Bs) (c:Nat):Nat:=num (k.take 4)%c
def pos (k:Bs) (c d:Nat):Nat:=(home k c+d)%c
section
variable {V:Type}{s s':List (Slot V)}{x y:Slot V}{k l:Bs}{v u:V}{d e i j c:Nat}
def Slot.stop (x:Slot V) (k:Bs):Prop:=x.st=0∨(x.st=1∧x.key=k)
instance (x:Slot V) (k:Bs):Decidable (x.stop k):=by unfold Slot.stop;infer_instance
def oU (s:List (Slot V)) (k:Bs) (i:Nat):Prop:=∃ x,s[i]?=some x∧x.stop k
structure Ends (s:List (Slot V)) (k:Bs) (d:Nat):Prop where
 lt:d<s.length
 here:oU s k (pos k s.length d)
 no:∀ e,e<d→¬ oU s k (pos k s.length e)
structure Good (s:List (Slot V)):Prop where
 pow:∃ j,s.length=2^j∧3≤j
 st:∀ x∈s,x.st≤2
 key:∀ x∈s,x.key.length=32
 reach:∀ i x,s[i]?=some x→x.st=1→∃ d,d<s.length∧pos x.key s.length d=i∧∀ e,e<d→¬ oU s x.key (pos x.key s.length e)
def Has (s:List (Slot V)) (k:Bs) (v:V):Prop:=∃ (i:Nat) (x:Slot V),s[i]?=some x∧x.st=1∧x.key=k∧x.val=v
theorem Good.jG (h:Good s):0<s.length:=by
 obtain ⟨j,h1,_⟩:=h.pow
 rw [h1];exact Nat.two_pow_pos j
theorem lX (h:0<c):pos k c d<c:=akC _ h
theorem KW (h:0<c):home k c<c:=akC _ h
theorem VK (h:0<c):(pos k c d+1)%c=pos k c (d+1):=by
 unfold pos
 rw [Nat.mod_add_mod,akU]
theorem VL (h:0<c):pos k c 0=home k c:=by
 unfold pos
 rw [akc];exact akN (KW h)
theorem afx (h:i<c):∃ d,d<c∧pos k c d=i:=by
 have hc:0<c:=by omega
 have hh:home k c<c:=KW hc
 by_cases hi:home k c≤i
 ·refine ⟨i - home k c,by omega,?_⟩
  unfold pos
  rw [show home k c+(i - home k c)=i by omega]
  exact akN h
 ·refine ⟨i+c - home k c,by omega,?_⟩
  unfold pos
  rw [show home k c+(i+c - home k c)=i+c by omega,Nat.add_mod_right]
  exact akN h
theorem afy (hd:d<c) (he:e<c) (h:pos k c d=pos k c e):d=e:=by
 have hc:0<c:=by omega
 have hh:home k c<c:=KW hc
 unfold pos at h
 have f:∀ d,d<c→(home k c+d)%c=if home k c+d<c then home k c+d else home k c+d - c:=fun d hd=>by
  split
  ·exact akN ‹_›
  ·rw [Nat.mod_eq_sub_mod oQ];exact akN oQ
 rw [f d hd,f e he]at h
 split at h <;> split at h <;> omega
theorem least {p:Nat→Prop}:∀ (n:Nat),(∃ d,d<n∧p d)→∃ d,d<n∧p d∧∀ e,e<d→¬ p e
 |0,h=>by obtain ⟨d,hd,_⟩:=h;omega
 |n+1,h=>by
  by_cases h1:∃ d,d<n∧p d
  ·obtain ⟨d,h2,h3,h4⟩:=least n h1
   exact ⟨d,by omega,h3,h4⟩
  ·obtain ⟨d,h2,h3⟩:=h
   refine ⟨d,h2,h3,fun e he h5=>h1 ⟨e,by omega,h5⟩⟩
theorem Kt (h:Good s) (hf:∃ x∈s,x.st=0):∃ d,Ends s k d:=by
 obtain ⟨x,hx,h0⟩:=hf
 obtain ⟨i,hi,he⟩:=akp hx
 obtain ⟨d,h1,h2⟩:=afx (k:=k) hi
 obtain ⟨d',a,b,c⟩:=least (p:=fun d=>oU s k (pos k s.length d)) s.length ⟨d,h1,by rw [h2];exact ⟨x,by rw [aak hi,he],.inl h0⟩⟩
 exact ⟨d',a,b,c⟩
theorem Ends.unique (h:Ends s k d) (h':Ends s k e):d=e:=by
 rcases akT d e with q|q|q
 ·exact absurd h.here (h'.no d q)
 ·exact q
 ·exact absurd h'.here (h.no e q)
theorem Good.ends (h:Good s) (hi:s[i]?=some x) (hf:x.st=1):∃ d,Ends s x.key d∧pos x.key s.length d=i:=by
 obtain ⟨d,h1,h2,h3⟩:=h.reach i x hi hf
 exact ⟨d,⟨h1,⟨x,by rw [h2];exact hi,.inr ⟨hf,rfl⟩⟩,h3⟩,h2⟩
theorem Ends.slot (h:Ends s k d):∃ x,s[pos k s.length d]?=some x∧x.stop k:=h.here
theorem ES (he:Ends s k d) (hx:s[pos k s.length d]?=some x) (hf:x.st=1):x.key=k∧Has s k x.val:=by
 obtain ⟨y,hy,hs⟩:=he.here
 rw [hx]at hy;cases hy
 rcases hs with h|⟨_,h⟩
 ·omega
 ·exact ⟨h,_,x,hx,hf,h,rfl⟩
theorem ER (g:Good s) (he:Ends s k d) (hx:s[pos k s.length d]?=some x) (hf:x.st≠1):x.st=0∧∀ v,¬ Has s k v:=by
 obtain ⟨y,hy,hs⟩:=he.here
 rw [hx]at hy;cases hy
 refine ⟨?_,fun v hv=>?_⟩
 ·rcases hs with h|⟨h,_⟩
  ·exact h
  ·exact absurd h hf
 ·obtain ⟨i,z,hz,h1,rfl,_⟩:=hv
  obtain ⟨d',h2,h3⟩:=g.ends hz h1
  obtain rfl:=he.unique h2
  rw [h3,hz]at hx;cases hx
  exact hf h1
theorem Good.one (g:Good s) (hx:s[i]?=some x) (hy:s[j]?=some y) (h1:x.st=1) (h2:y.st=1) (hk:x.key=y.key):i=j:=by
 obtain ⟨d,a,b⟩:=g.ends hx h1
 obtain ⟨e,a',b'⟩:=g.ends hy h2
 rw [← hk]at a' b'
 obtain rfl:=a.unique a'
 rw [← b,← b']
theorem sJ (hi:i<s.length):(s.set i x)[i]?=some x:=by rw [List.getElem?_set_self hi]
theorem qC (h:i≠j):(s.set i x)[j]?=s[j]?:=List.getElem?_set_ne h
theorem MN (g:Good s) (he:Ends s k d) (hx:s[pos k s.length d]?=some x) (hf:x.st=1) (v:V) :
  Good (s.set (pos k s.length d) ⟨x.st,x.key,v⟩)∧∀ k' v',Has (s.set (pos k s.length d) ⟨x.st,x.key,v⟩) k' v'↔if k'=k then v'=v else Has s k' v':=by
 obtain ⟨hk,_⟩:=ES he hx hf
 have hlt:pos k s.length d<s.length:=lX g.jG
 generalize hp:pos k s.length d=p at *
 have hst:∀ q l,oU (s.set p ⟨x.st,x.key,v⟩) l q↔oU s l q:=fun q l=>by
  unfold oU
  by_cases h:p=q
  ·subst h
   rw [sJ hlt,hx]
   constructor
   ·rintro ⟨y,hy,hs⟩;cases hy;exact ⟨x,rfl,hs⟩
   ·rintro ⟨y,hy,hs⟩;cases hy;exact ⟨_,rfl,hs⟩
  ·rw [qC h]
 have hmem:x∈s:=abA hx
 refine ⟨⟨by rw [aj0];exact g.pow,fun y hy=>?_,fun y hy=>?_,fun q y hq hy=>?_⟩,fun k' v'=>?_⟩
 ·rcases akw hy with h|rfl
  ·exact g.st y h
  ·exact g.st x hmem
 ·rcases akw hy with h|rfl
  ·exact g.key y h
  ·exact g.key x hmem
 ·rw [aj0]
  by_cases h:p=q
  ·subst h
   rw [sJ hlt]at hq;cases hq
   obtain ⟨d',a,b,c⟩:=g.reach p x hx hf
   exact ⟨d',a,b,fun e h hh=>c e h ((hst _ _).1 hh)⟩
  ·rw [qC h]at hq
   obtain ⟨d',a,b,c⟩:=g.reach q y hq hy
   exact ⟨d',a,b,fun e h hh=>c e h ((hst _ _).1 hh)⟩
 ·constructor
  ·rintro ⟨q,y,hq,h1,h2,h3⟩
   by_cases h:p=q
   ·subst h
    rw [sJ hlt]at hq;cases hq
    rw [ac3 (h2.symm.trans hk)];exact h3.symm
   ·rw [qC h]at hq
    rw [abw fun hkk:k'=k=>h (g.one hx hq hf h1 (hk.trans (hkk.symm.trans h2.symm)))]
    exact ⟨q,y,hq,h1,h2,h3⟩
  ·intro h
   split at h
   ·rename_i hkk
    exact ⟨p,_,sJ hlt,hf,hk.trans hkk.symm,h.symm⟩
   ·rename_i hkk
    obtain ⟨q,y,hq,h1,h2,h3⟩:=h
    have:p≠q:=fun h=>by subst h;rw [hx]at hq;cases hq;exact hkk (h2.symm.trans hk)
    exact ⟨q,y,by rw [qC this];exact hq,h1,h2,h3⟩
theorem Gj (g:Good s) (he:Ends s k d) (hx:s[pos k s.length d]?=some x) (hf:x.st≠1) (hk:k.length=32) (v:V) :
  Good (s.set (pos k s.length d) ⟨1,k,v⟩)∧∀ k' v',Has (s.set (pos k s.length d) ⟨1,k,v⟩) k' v'↔if k'=k then v'=v else Has s k' v':=by
 obtain ⟨h0,hno⟩:=ER g he hx hf
 have hlt:pos k s.length d<s.length:=lX g.jG
 have hst:∀ q l,q≠pos k s.length d→(oU (s.set (pos k s.length d) ⟨1,k,v⟩) l q↔oU s l q):=fun q l h=>by
  unfold oU
  rw [qC (Ne.symm h)]
 have hp0:∀ l,oU s l (pos k s.length d):=fun l=>⟨x,hx,.inl h0⟩
 refine ⟨⟨by rw [aj0];exact g.pow,fun y hy=>?_,fun y hy=>?_,fun q y hq hy=>?_⟩,fun k' v'=>?_⟩
 ·rcases akw hy with h|rfl
  ·exact g.st y h
  ·exact (by decide:1≤2)
 ·rcases akw hy with h|rfl
  ·exact g.key y h
  ·exact hk
 ·rw [aj0]
  by_cases h:pos k s.length d=q
  ·subst h
   rw [sJ hlt]at hq;cases hq
   refine ⟨d,he.lt,rfl,fun e h=>?_⟩
   have hne:pos k s.length e≠pos k s.length d:=fun hh=>by have:=afy (Nat.lt_trans h he.lt) he.lt hh;omega
   exact fun hh=>he.no e h ((hst _ _ hne).1 hh)
  ·rw [qC h]at hq
   obtain ⟨d',a,b,c⟩:=g.reach q y hq hy
   refine ⟨d',a,b,fun e h=>?_⟩
   have hne:pos y.key s.length e≠pos k s.length d:=fun hh=>c e h (by rw [hh];exact hp0 _)
   exact fun hh=>c e h ((hst _ _ hne).1 hh)
 ·constructor
  ·rintro ⟨q,y,hq,h1,h2,h3⟩
   by_cases h:pos k s.length d=q
   ·subst h
    rw [sJ hlt]at hq;cases hq
    rw [ac3 h2.symm];exact h3.symm
   ·rw [qC h]at hq
    rw [abw fun hkk:k'=k=>hno v' ⟨q,y,hq,h1,h2.trans hkk,h3⟩]
    exact ⟨q,y,hq,h1,h2,h3⟩
  ·intro h
   split at h
   ·rename_i hkk
    exact ⟨_,_,sJ hlt,rfl,hkk.symm,h.symm⟩
   ·obtain ⟨q,y,hq,h1,h2,h3⟩:=h
    have:pos k s.length d≠q:=fun h=>by subst h;rw [hx]at hq;cases hq;exact hf h1
    exact ⟨q,y,by rw [qC this];exact hq,h1,h2,h3⟩
def jB (s:List (Slot V)):Nat:=s.countP fun x=>x.st==1
def used (s:List (Slot V)):Nat:=s.countP fun x=>x.st != 0
theorem uJ (p:Slot V→Bool):∀ (s:List (Slot V)) (i:Nat) (x y:Slot V),s[i]?=some x→(s.set i y).countP p+(if p x=true then 1 else 0)=s.countP p+(if p y=true then 1 else 0)
 |[],_,_,_,h=>by simp at h
 |a::s,0,x,y,h=>by
  obtain rfl:a=x:=by simpa using h
  rw [List.set_cons_zero,alp,alp];omega
 |a::s,i+1,x,y,h=>by
  rw [List.set_cons_succ,alp,alp]
  have:=uJ p s i x y (by simpa using h)
  omega
theorem KA (h:used s<s.length):∃ x∈s,x.st=0:=by
 apply Classical.byContradiction
 intro hn
 have:used s=s.length:=by
  unfold used
  rw [List.countP_eq_length]
  intro x hx
  have:x.st≠0:=fun h0=>hn ⟨x,hx,h0⟩
  simpa using this
 omega
structure Tb (V:Type) where
 slots:List (Slot V)
 n:Nat
 gone:Nat
structure Tb.Ok (t:Tb V):Prop where
 good:Good t.slots
 n:t.n=jB t.slots
 gone:t.n+t.gone=used t.slots
 load:4 * (t.n+t.gone)≤3 * t.slots.length
 size:t.slots.length≤8+4 * (t.n+t.gone)
theorem Tb.Ok.free {t:Tb V} (h:t.Ok):∃ x∈t.slots,x.st=0:=KA (by have:=h.gone;have:=h.load;have:=h.good.jG;omega)
theorem Tb.Ok.ends {t:Tb V} (h:t.Ok) (k:Bs):∃ d,Ends t.slots k d:=Kt h.good h.free
def Tb.Is (t:Tb V) (m:Bs→Option V):Prop:=∀ k v,Has t.slots k v↔m k=some v
def put (m:Bs→Option V) (k:Bs) (v:V):Bs→Option V:=fun l=>if l=k then some v else m l
theorem Fz {t:Tb V}{m:Bs→Option V} (hm:t.Is m) (h:∀ k' v',Has s' k' v'↔if k'=k then v'=v else Has t.slots k' v') (n g:Nat):(⟨s',n,g⟩:Tb V).Is (put m k v):=fun k' v'=>by
 rw [show (⟨s',n,g⟩:Tb V).slots=s' from rfl,h]
 unfold put
 split
 ·exact ⟨fun e=>by rw [e],fun e=>(ake e).symm⟩
 ·exact hm k' v'
theorem VU {t:Tb V} (h:t.Ok) (he:Ends t.slots k d) (hx:t.slots[pos k t.slots.length d]?=some x) (hf:x.st=1) (v:V) :
  (⟨t.slots.set (pos k t.slots.length d) ⟨x.st,x.key,v⟩,t.n,t.gone⟩:Tb V).Ok:=by
 have h1:=uJ (fun x=>x.st==1) t.slots _ x ⟨x.st,x.key,v⟩ hx
 have h2:=uJ (fun x=>x.st != 0) t.slots _ x ⟨x.st,x.key,v⟩ hx
 refine ⟨(MN h.good he hx hf v).1,?_,?_,by simp only [aj0];exact h.load,by simp only [aj0];exact h.size⟩
 ·have:=h.n;unfold jB at *;simp only at *;omega
 ·have:=h.gone;unfold used at *;simp only at *;omega
theorem VR {t:Tb V} (h:t.Ok) (hl:4 * (t.n+t.gone+1)≤3 * t.slots.length) (he:Ends t.slots k d) (hx:t.slots[pos k t.slots.length d]?=some x) (hf:x.st≠1) (hk:k.length=32) (v:V) :
  (⟨t.slots.set (pos k t.slots.length d) ⟨1,k,v⟩,t.n+1,t.gone⟩:Tb V).Ok:=by
 have h0:=(ER h.good he hx hf).1
 have h1:=uJ (fun x=>x.st==1) t.slots _ x ⟨1,k,v⟩ hx
 have h2:=uJ (fun x=>x.st != 0) t.slots _ x ⟨1,k,v⟩ hx
 refine ⟨(Gj h.good he hx hf hk v).1,?_,?_,?_,?_⟩
 ·have:=h.n;unfold jB at *;simp [h0]at h1 ⊢;omega
 ·have:=h.gone;unfold used at *;simp [h0]at h2 ⊢;omega
 ·simp only [aj0];omega
 ·have:=h.size;simp only [aj0];omega
structure Half (old cur:List (Slot V)) (j:Nat):Prop where
 good:Good cur
 has:∀ k v,Has cur k v↔Has (old.take j) k v
 nf:jB cur=jB (old.take j)
 nu:used cur=jB (old.take j)
theorem XQ (h:s[j]?=some x):Has (s.take (j+1)) k v↔Has (s.take j) k v∨(x.st=1∧x.key=k∧x.val=v):=by
 have hj:j<s.length:=(abl.1 h).1
 have e:s.take (j+1)=s.take j++[x]:=by rw [ajL,h];rfl
 rw [e]
 unfold Has
 constructor
 ·rintro ⟨i,y,hy,a,b,c⟩
  by_cases hi:i<(s.take j).length
  ·rw [adV hi]at hy;exact .inl ⟨i,y,hy,a,b,c⟩
  ·rw [adQ oQ]at hy
   cases hz:i - (s.take j).length with
   |zero=>rw [hz]at hy;cases hy;exact .inr ⟨a,b,c⟩
   |succ z=>rw [hz]at hy;simp at hy
 ·rintro (⟨i,y,hy,a,b,c⟩|⟨a,b,c⟩)
  ·exact ⟨i,y,by rw [adV (abl.1 hy).1];exact hy,a,b,c⟩
  ·exact ⟨(s.take j).length,x,by simp,a,b,c⟩
theorem Ia (h:s[j]?=some x):jB (s.take (j+1))=jB (s.take j)+(if x.st=1 then 1 else 0):=by
 unfold jB
 rw [ajL,h,List.countP_append]
 simp [alp]
theorem Si (s:List (Slot V)) (j:Nat):jB (s.take j)≤jB s:=by
 unfold jB
 exact (List.take_sublist j s).countP_le
theorem Half.skip {old cur:List (Slot V)} (h:Half old cur j) (hx:old[j]?=some x) (hf:x.st≠1):Half old cur (j+1):=
 ⟨h.good,fun k v=>by rw [XQ hx,h.has];exact ⟨.inl,fun q=>q.elim id fun q=>absurd q.1 hf⟩,by rw [Ia hx,abw hf];exact h.nf,by rw [Ia hx,abw hf];exact h.nu⟩
theorem Half.fresh {old cur:List (Slot V)} (go:Good old) (h:Half old cur j) (hx:old[j]?=some x) (hf:x.st=1) (u:V):¬ Has cur x.key u:=by
 rw [h.has]
 rintro ⟨i,y,hy,a,b,c⟩
 have hi:i<(old.take j).length:=(abl.1 hy).1
 have hij:i<j:=by rw [acJ]at hi;omega
 have hy':old[i]?=some y:=by rw [List.getElem?_take_of_lt hij]at hy;exact hy
 have:=go.one hy' hx a hf b
 omega
theorem Half.step {old cur:List (Slot V)} (go:Good old) (h:Half old cur j) (hx:old[j]?=some x) (hf:x.st=1) (he:Ends cur x.key d) :
  Half old (cur.set (pos x.key cur.length d) x) (j+1):=by
 obtain ⟨y,hy,hs⟩:=he.slot
 have Uj:y.st≠1:=fun h1=>h.fresh go hx hf y.val (ES he hy h1).2
 obtain ⟨h0,_⟩:=ER h.good he hy Uj
 obtain ⟨st,key,val⟩:=x
 obtain rfl:st=1:=hf
 obtain ⟨g,hh⟩:=Gj h.good he hy Uj (go.key _ (abA hx)) val
 have h1:=uJ (fun x=>x.st==1) cur _ y ⟨1,key,val⟩ hy
 have h2:=uJ (fun x=>x.st != 0) cur _ y ⟨1,key,val⟩ hy
 refine ⟨g,fun k v=>?_,?_,?_⟩
 ·rw [hh,XQ hx]
  split
  ·rename_i hk
   subst hk
   constructor
   ·intro e;exact .inr ⟨rfl,rfl,e.symm⟩
   ·rintro (q|⟨_,_,e⟩)
    ·exact absurd ((h.has _ _).2 q) (h.fresh go hx rfl v)
    ·exact e.symm
  ·rename_i hk
   rw [h.has]
   exact ⟨.inl,fun q=>q.elim id fun q=>absurd q.2.1.symm hk⟩
 ·rw [Ia hx,ac3 rfl,← h.nf]
  unfold jB at *;simp [h0]at h1 ⊢;omega
 ·rw [Ia hx,ac3 rfl,← h.nu]
  unfold used at *;simp [h0]at h2 ⊢;omega
theorem Half.done {old cur:List (Slot V)} (h:Half old cur old.length):Good cur∧(∀ k v,Has cur k v↔Has old k v)∧jB cur=jB old∧used cur=jB old:=by
 have h1:=h.has;have h2:=h.nf;have h3:=h.nu
 rw [aiv]at h1 h2 h3
 exact ⟨h.good,h1,h2,h3⟩
end
end Go.Tab
namespace Go.aj
theorem MB (l:Bs) (c:UInt8):num (l++[c])=num l+c.toNat * 256^l.length:=by
 induction l with
 |nil=>show c.toNat+256 * 0=0+c.toNat * 1;omega
 |cons d l ih=>
  show d.toNat+256 * num (l++[c])=d.toNat+256 * num l+c.toNat * 256^(l.length+1)
  rw [ih,alA,Nat.mul_add,← Nat.mul_assoc,ajW 256 (c.toNat),Nat.mul_assoc,ajW 256 (256^l.length),← akU]
end Go.aj
namespace Go.Proofs.YtiglchkhikciiaaGreatDoor
open Go Go.Sl Go.ay Go.MapKept Go.RowKit
section
variable {w0 w:World}{F R:List aG}{v bv dv x lv:Value}
theorem Gf (l:Bs) (c:UInt8) (k:Nat) (hl:l.length=k) (hk:k<7):bits .or .u64 ((aj.num l:Nat):Int) ((c.toNat:Int) * ((256^k:Nat):Int))=((aj.num (l++[c]):Nat):Int):=by
 subst hl
 have h1:=aj.vX l
 have h2:=c.toNat_lt
 have h3:256^l.length≤256^6:=akv aN oQ
 have h4:c.toNat * 256^l.length≤255 * 256^6:=akI oQ h3
 have h5:(256:Nat)^6=281474976710656:=by decide
 have e:(c.toNat:Int) * ((256^l.length:Nat):Int)=((c.toNat * 256^l.length:Nat):Int):=by rw [alz]
 rw [e,u64_or_nat _ _ oQ oQ,aj.MB]
 congr 1
 have hp:(256:Nat)^l.length=2^(8 * l.length):=by rw [Nat.pow_mul]
 rw [hp]at h1 ⊢
 have:=Nat.two_pow_add_eq_or_of_lt h1 c.toNat
 rw [Nat.or_comm,ajW c.toNat,← this,alm]
theorem V8 {k:Nat}{l:Bs}{a:Option Addr}{n c:Nat} (h:bg 1 (.slice a n c) (aA l) w):bg 1 (.slice a (min n k) c) (aA (l.take k)) w:=by
 obtain ⟨a',n',c',he,hl,hx⟩:=h
 cases he
 rw [aV,aiw]at hl
 refine ⟨a,_,c,rfl,by rw [aV,acJ];omega,fun j y hj=>?_⟩
 have hj':(aA l)[j]?=some y:=by
  unfold aA at hj ⊢
  rw [ala,ajl]at hj
  split at hj
  ·exact hj
  ·cases hj
 exact hx j y hj'
set_option maxRecDepth 20000 in
theorem acs (c0 c1 c2 c3:UInt8) (a:Option Addr) (c:Nat) (h:bg 1 (.slice a 4 c) (aA [c0,c1,c2,c3]) w) :
  Calls Tryz.prog 186 #[.slice a 4 c] w (aO fun v w'=>v = .tuple #[.int .u64 (aj.num [c0,c1,c2,c3]:Nat),.bool true]∧w=w'):=by
 obtain ⟨bk,off,rfl,hc⟩:=nU h (i:=0) rfl
 have e0:w.cell? ⟨bk,off,none⟩=some (.int .u8 c0.toNat):=hc 0 _ rfl
 have e1:w.cell? ⟨bk,off+1,none⟩=some (.int .u8 c1.toNat):=hc 1 _ rfl
 have e2:w.cell? ⟨bk,off+2,none⟩=some (.int .u8 c2.toNat):=hc 2 _ rfl
 have e3:w.cell? ⟨bk,off+3,none⟩=some (.int .u8 c3.toNat):=hc 3 _ rfl
 have b0:=c0.toNat_lt;have b1:=c1.toNat_lt;have b2:=c2.toNat_lt;have b3:=c3.toNat_lt
 clear hc h
 go_enter Tryz.func186,Tryz.ntmps186
 go_wp2_with fail
 go_loopg [17,4] 4 (fun g iq xq wr=>∃ i:Nat,g=4 - i∧i≤4∧iq = .int .i64 i∧xq = .int .u64 (aj.num ([c0,c1,c2,c3].take i):Nat)∧wr=w)
 case atStart=>exact ⟨0,rfl,by omega,rfl,rfl,rfl⟩
 case round=>
  obtain ⟨i,rfl,hi,rfl,rfl,rfl⟩:=hrel
  by_cases h4:i<4
  ·have h0:i=0∨i=1∨i=2∨i=3:=by omega
   clear hi h4
   rcases h0 with rfl|rfl|rfl|rfl
   ·have hq:bits .or .u64 ((aj.num []:Nat):Int) (c0.toNat:Int)=((aj.num [c0]:Nat):Int):=by
     have:=Gf [] c0 0 rfl aN
     simpa using this
    go_wp2_with fail
    go_roundg (4 - 1)
    case measure=>decide
    case rel=>exact ⟨1,rfl,by decide,by first|rfl|go_num,rfl,rfl⟩
   ·have hq:bits .or .u64 ((aj.num [c0]:Nat):Int) ((c1.toNat:Int) * 256)=((aj.num [c0,c1]:Nat):Int):=Gf [c0] c1 1 rfl aN
    go_wp2_with fail
    go_roundg (4 - 2)
    case measure=>decide
    case rel=>exact ⟨2,rfl,by decide,by first|rfl|go_num,rfl,rfl⟩
   ·have hq:bits .or .u64 ((aj.num [c0,c1]:Nat):Int) ((c2.toNat:Int) * 65536)=((aj.num [c0,c1,c2]:Nat):Int):=Gf [c0,c1] c2 2 rfl aN
    go_wp2_with fail
    go_roundg (4 - 3)
    case measure=>decide
    case rel=>exact ⟨3,rfl,by decide,by first|rfl|go_num,rfl,rfl⟩
   ·have hq:bits .or .u64 ((aj.num [c0,c1,c2]:Nat):Int) ((c3.toNat:Int) * 16777216)=((aj.num [c0,c1,c2,c3]:Nat):Int):=Gf [c0,c1,c2] c3 3 rfl aN
    go_wp2_with fail
    go_roundg (4 - 4)
    case measure=>decide
    case rel=>exact ⟨4,rfl,by decide,by first|rfl|go_num,rfl,rfl⟩
  ·obtain rfl:i=4:=by omega
   go_wp2
   go_ret2
   exact ⟨_,rfl,rfl,rfl⟩
theorem four {l:Bs} (h:l.length=4):∃ c0 c1 c2 c3,l=[c0,c1,c2,c3]:=by
 match l,h with
 |[c0,c1,c2,c3],_=>exact ⟨c0,c1,c2,c3,rfl⟩
theorem Sj (l:Bs) (hl:l.length=4) (a:Option Addr) (c:Nat) (h:bg 1 (.slice a 4 c) (aA l) w) :
  Calls Tryz.prog 186 #[.slice a 4 c] w (aO fun v w'=>v = .tuple #[.int .u64 (aj.num l:Nat),.bool true]∧w=w'):=by
 obtain ⟨c0,c1,c2,c3,rfl⟩:=four hl
 exact acs c0 c1 c2 c3 a c h
theorem Vq (l:Bs) (hl:4≤l.length) (a:Option Addr) (n c:Nat) (hn:n≤c) (hc:c≤9223372036854775807) (h:bg 1 (.slice a n c) (aA l) w) :
  Calls Tryz.prog 128 #[.slice a n c] w (aO fun v w'=>v = .int .u32 (aj.num (l.take 4):Nat)∧w=w'):=by
 have hln:n=l.length:=by
  obtain ⟨_,_,_,he,hl',_⟩:=h
  cases he
  rw [aV,aiw]at hl';exact hl'.symm
 have h4:=V8 (k:=4) h
 rw [show min n 4=4 by omega]at h4
 have hg:=Sj (l.take 4) (by rw [acJ];omega) a c h4
 have hlt:=aj.vX (l.take 4)
 rw [acJ,alh hl]at hlt
 have hb:(aj.num (l.take 4):Int)<4294967296:=by omega
 have hc4:(4:Int)≤(c:Int):=by omega
 generalize aj.num (l.take 4)=N at *
 clear hlt hln h4 h hl
 have hw:IntKind.u32.wrap (N:Int)=(N:Int):=by rw [IntKind.wrap_u32];omega
 go_enter Tryz.func128,Tryz.ntmps128
 go_wp2_with (go_at_call 186;refine hg.mono ?_;rintro e w1 ⟨v,rfl,rfl,rfl⟩)
 go_ret
 exact ⟨_,rfl,rfl,rfl⟩
theorem ab4 (t:UInt8) (n:Nat) (hn:n<4294967296) (w:World) :
  Calls Tryz.prog 129 #[.int .u8 t.toNat,.int .i64 n] w (aO fun v w'=>v = .bool (aj.fits t n)∧w=w'):=by
 have htl:=t.toNat_lt
 by_cases h0:t=0
 ·subst h0
  by_cases h1:41≤n
  ·by_cases h2:n≤16425
   ·have Hf:=uQ (show aj.fits 0 n=true by unfold aj.fits;rw [ac3 rfl];exact aiu ⟨h1,h2⟩)
    have c1:(41:Int)≤(n:Int):=by omega
    have c2:(n:Int)≤16425:=by omega
    clear h1 h2
    go_enter Tryz.func129,Tryz.ntmps129
    go_wp2
    go_ret
    rw [Hf.out]
    exact ⟨_,rfl,rfl,rfl⟩
   ·have Hf:=uQ (show aj.fits 0 n=false by unfold aj.fits;rw [ac3 rfl];exact aex oQ)
    have c1:(41:Int)≤(n:Int):=by omega
    have c2:decide ((n:Int)≤16425)=false:=aex oQ
    clear h1 h2
    go_enter Tryz.func129,Tryz.ntmps129
    go_wp2
    go_ret
    rw [Hf.out]
    exact ⟨_,rfl,rfl,rfl⟩
  ·have Hf:=uQ (show aj.fits 0 n=false by unfold aj.fits;rw [ac3 rfl];exact aex oQ)
   have c1:decide ((41:Int)≤(n:Int))=false:=aex oQ
   clear h1
   go_enter Tryz.func129,Tryz.ntmps129
   go_wp2
   go_ret
   rw [Hf.out]
   exact ⟨_,rfl,rfl,rfl⟩
 by_cases h1:t=1
 ·subst h1
  have Hf:=uQ (show aj.fits 1 n=decide (n=41) by unfold aj.fits;rw [abw aN,ac3 rfl])
  have He:=uQ (show ((n:Int)==41)=decide (n=41) by rw [akJ,akr,adN];omega)
  go_enter Tryz.func129,Tryz.ntmps129
  go_wp2
  go_ret
  rw [Hf.out,← He.out]
  exact ⟨_,rfl,rfl,rfl⟩
 by_cases h2:t=2
 ·subst h2
  have Hf:=uQ (show aj.fits 2 n=decide (n=9) by unfold aj.fits;rw [abw aN,abw aN,ac3 rfl])
  have He:=uQ (show ((n:Int)==9)=decide (n=9) by rw [akJ,akr,adN];omega)
  go_enter Tryz.func129,Tryz.ntmps129
  go_wp2
  go_ret
  rw [Hf.out,← He.out]
  exact ⟨_,rfl,rfl,rfl⟩
 ·have Hf:=uQ (show aj.fits t n=false by unfold aj.fits;rw [abw h0,abw h1,abw h2])
  have g0:((t.toNat:Int)==0)=false:=by rw [adW];intro h;exact h0 (UInt8.toNat_inj.1 (by rw [show (0:UInt8).toNat=0 from rfl];omega))
  have g1:((t.toNat:Int)==1)=false:=by rw [adW];intro h;exact h1 (UInt8.toNat_inj.1 (by rw [show (1:UInt8).toNat=1 from rfl];omega))
  have g2:((t.toNat:Int)==2)=false:=by rw [adW];intro h;exact h2 (UInt8.toNat_inj.1 (by rw [show (2:UInt8).toNat=2 from rfl];omega))
  clear h0 h1 h2
  generalize t.toNat=T at *
  go_enter Tryz.func129,Tryz.ntmps129
  go_wp2
  go_ret
  rw [Hf.out]
  exact ⟨_,rfl,rfl,rfl⟩
end
section
variable {w0 w:World}{L L' R:List aG}{b:Nat}{ops:Array Oper}{rest:List Oper}{a:Act}{Q:Exit→Act→World→Prop}
variable {dst:Option Tmp}{t T:TypeId}{pos:String}{after:Array Edge}{x y:Operand}{cs:Array Value}{v:Value}{e:aj.aP}{da:Option Addr}{dn dc:Nat}
theorem agF (tag:Int) (w:World):(Instr.build 78 #[(0,.int .i64 tag)]).run Tryz.prog w = .ok (.agg (dG ⟨tag,aj.zero32,[]⟩ (.slice none 0 0))) w:=by
 have hz:(dG aj.zeroE (.slice none 0 0)).size=34:=dW _ _ rfl
 have h:=ak8 (P:=Tryz.prog) [(0,.int .i64 tag)] Gg yV (by
  intro p hp
  rw [aiR]at hp
  subst hp
  have hzz:uO.cells.size=34:=hz
  rw [hzz]
  exact ⟨0,rfl,by show 0+1≤34;omega⟩) w
 exact h
theorem Yf {tag:Int} (hx:a.eval x = .int .i64 tag) (h:wpList Tryz.prog ops Q rest (a.put dst (.agg (dG ⟨tag,aj.zero32,[]⟩ (.slice none 0 0)))) w):wpList Tryz.prog ops Q (⟨dst,.build 78 #[(0,x)],t,pos,after,none⟩::rest) a w:=
 ajx rfl fun _ hK=>by
  unfold Oper.wp execOp
  simp only [ajR,ag8,ajP,hx,adO,agF,ac2,aeC]
  exact hK _ _ h
theorem wU (h:wpList Tryz.prog ops Q rest (a.put dst (.agg (dG aj.zeroE (.slice none 0 0)))) w):wpList Tryz.prog ops Q (⟨dst,.build 78 #[],t,pos,after,none⟩::rest) a w:=
 ajx rfl fun _ hK=>by
  unfold Oper.wp execOp
  simp only [ajR,ajP,adO,ag7,ac2,aeC]
  exact hK _ _ h
theorem Qa (h:Stop (wpList Tryz.prog ops Q (⟨dst,.build 78 #[(0,x)],t,pos,after,none⟩::rest) a w)):wpList Tryz.prog ops Q (⟨dst,.build 78 #[(0,x)],t,pos,after,none⟩::rest) a w:=h.out
theorem vw (h:Stop (wpList Tryz.prog ops Q (⟨dst,.build 78 #[],t,pos,after,none⟩::rest) a w)):wpList Tryz.prog ops Q (⟨dst,.build 78 #[],t,pos,after,none⟩::rest) a w:=h.out
theorem aiL {P:Program}{ty:TypeId}{z:Operand}{vx vy vz:Value} (hx:a.eval x=vx) (hy:a.eval y=vy) (hz:a.eval z=vz) (hr:∀ w,(Instr.sliceAt ty vx (some vy) (some vz) none).run P w = .ok v w)
  (h:wpList P ops Q rest (a.put dst v) w):wpList P ops Q (⟨dst,.slice ty x (some y) (some z) none,t,pos,after,none⟩::rest) a w:=
 ajx rfl fun _ hK=>by
  unfold Oper.wp execOp
  simp only [hx,hy,hz,aj7,akK,adO,hr,ac2,aeC]
  exact hK _ _ h
theorem aai {P:Program}{ty:TypeId}{z:Operand} (h:Stop (wpList P ops Q (⟨dst,.slice ty x (some y) (some z) none,t,pos,after,none⟩::rest) a w)):wpList P ops Q (⟨dst,.slice ty x (some y) (some z) none,t,pos,after,none⟩::rest) a w:=h.out
theorem agC (ad:Addr) (c:Nat) (w:World):(Instr.arrayAt 31 (.slice (some ad) 32 c)).run Tryz.prog w = .ok (.pointer (some ad)) w:=by
 simp [Instr.arrayAt,ajO (P:=Tryz.prog) Tryz.underlying31]
theorem afG {e:aj.aP}{dv:Value} (hk:e.key.length=32) (key:Bs) (hk2:key.length=32):dM (dG e dv) 1 (aA key)=dG ⟨e.tag,key,e.data⟩ dv:=by
 apply nT
 have hz:=dW e dv hk
 have h1:(aA key).length=32:=by rw [aV,hk2]
 have h2:(aA e.key).length=32:=by rw [aV,hk]
 rw [jU _ _ _ oQ]
 unfold dG kW
 rw [adM,adM,h1,show 1+32=32+1 by omega,ak5,alk,ajD,aku oQ,aiz oQ]
 simp
theorem afF {e:aj.aP}{dv:Value} (hk:e.key.length=32) (data:Bs) (QO:Value):dM (dG e dv) 33 [QO]=dG ⟨e.tag,e.key,data⟩ QO:=by
 apply nT
 have hz:=dW e dv hk
 have h2:(aA e.key).length=32:=by rw [aV,hk]
 rw [jU _ _ _ (by simp;omega)]
 unfold dG kW
 rw [adM,adM,adX,show 33+1=33+1 from rfl,ak5,alk,ajb oQ,aeb oQ,aiz (by simp;omega)]
 simp
theorem adE:(Tryz.prog.info? 31).map (·.size)=some 32:=by kernel_rfl
theorem adG:(Tryz.prog.info? 36).map (·.size)=some 1:=by kernel_rfl
theorem aiN {dv:Value}{key:Bs} (hs:Sat w0 w L) (hx:a.eval x = .pointer (some ⟨b,1,none⟩)) (hy:a.eval y = .agg (aA key).toArray) (hk:e.key.length=32) (hk2:key.length=32) (u:ng (pt b (.cells (dG e dv) T (0,0))) (pt b (.cells (dG ⟨e.tag,key,e.data⟩ dv) T (0,0))) L L')
  (hK:∀ w',Sat w0 w' L'→wpList Tryz.prog ops Q rest (a.put dst undef) w'):wpList Tryz.prog ops Q (⟨dst,.store 31 x y,t,pos,after,none⟩::rest) a w:=by
 obtain ⟨R',h2,h3⟩:=u
 have hz:=dW e dv hk
 have hb:(aA key).toArray.size=32:=by simp [aA,hk2]
 refine DY (w0:=w0) rfl 31 x y rfl 1 (.agg (aA key).toArray) hx hy (show 1+(aA key).toArray.size≤(dG e dv).size by omega) (show _=some (aA key).toArray.size by rw [hb];exact adE) ?_ (hs.perm h2) fun w' hS=>hK w' ?_
 ·show (aA key).toArray.all _=true
  rw [← Array.all_toList]
  exact ajE.2 (tX _)
 ·have he:dM (dG e dv) 1 (Value.agg (aA key).toArray).cells.toList=dG ⟨e.tag,key,e.data⟩ dv:=afG hk key hk2
  rw [he]at hS
  exact hS.perm h3.symm
theorem aiM {dv:Value}{data:Bs} (hs:Sat w0 w L) (hx:a.eval x = .pointer (some ⟨b,33,none⟩)) (hy:a.eval y = .slice da dn dc) (hk:e.key.length=32) (u:ng (pt b (.cells (dG e dv) T (0,0))) (pt b (.cells (dG ⟨e.tag,e.key,data⟩ (.slice da dn dc)) T (0,0))) L L')
  (hK:∀ w',Sat w0 w' L'→wpList Tryz.prog ops Q rest (a.put dst undef) w'):wpList Tryz.prog ops Q (⟨dst,.store 36 x y,t,pos,after,none⟩::rest) a w:=by
 obtain ⟨R',h2,h3⟩:=u
 have hz:=dW e dv hk
 refine DY (w0:=w0) rfl 36 x y rfl 33 (.slice da dn dc) hx hy (show 33+1≤(dG e dv).size by omega) adG (by simp [Value.cells,Value.oneCell']) (hs.perm h2) fun w' hS=>hK w' ?_
 have he:dM (dG e dv) 33 (Value.slice da dn dc).cells.toList=dG ⟨e.tag,e.key,data⟩ (.slice da dn dc):=afF hk data _
 rw [he]at hS
 exact hS.perm h3.symm
theorem Aa {fn:Func}{p u q:Tmp}{tmps:Array Value} (hf:fn.results=#[.cell p 78,.tmp u,.tmp q]) (hs:Sat w0 w L) (hp:tmps.getD p undef = .pointer (some ⟨b,0,none⟩)) (k:Pick (pt b (.cells (dG e (.slice da dn dc)) T (0,0))) L R) (hk:e.key.length=32) :
  (results fn tmps).run Tryz.prog w = .ok (.tuple #[.agg (dG e (.slice da dn dc)),tmps.getD u undef,tmps.getD q undef]) w:=by
 have hl:=run_loadVar_row (P:=Tryz.prog) w b T 78 (dG e (.slice da dn dc)) (0,0) _ (hs.pick k).at Tryz.underlying78 ah (by rw [dW e _ hk];exact CY)
 have hp':tmps[p]?.getD undef = .pointer (some ⟨b,0,none⟩):=by simpa using hp
 simp [results,hf,hp',asAddr,hl,Result.andThen]
end
section
variable {w0 w:World}{F R:List aG}{v bv dv x lv:Value}
theorem V9 {l:Bs}{bk off n c:Nat} (h:bg 1 (.slice (some ⟨bk,off,none⟩) n c) (aA l) w) (i j c':Nat) (hij:i≤j) (hj:j≤l.length):bg 1 (.slice (some ⟨bk,off+i,none⟩) (j - i) c') (aA ((l.take j).drop i)) w:=by
 obtain ⟨a',n',c'',he,hl,hx⟩:=h
 cases he
 refine ⟨_,_,_,rfl,by rw [aV,adU,acJ];omega,fun k y hk=>⟨_,rfl,?_⟩⟩
 have hk':(aA l)[i+k]?=some y:=by
  unfold aA at hk ⊢
  rw [List.map_drop,ala,akG,ajl]at hk
  split at hk
  ·exact hk
  ·cases hk
 obtain ⟨b',hb',hc⟩:=hx _ _ hk'
 cases hb'
 rw [Addr.add_mid]at hc ⊢
 rw [akU];exact hc
end
section
variable {w0 w:World}{F R:List aG}{v bv dv x lv:Value}
set_option maxRecDepth 20000 in
theorem RY (l:Bs) (hr:Ro w0 F (bg 1 bv (aA l))) (hcap:kV bv) (hH:Ro w0 F Half) (hl:l.length≤1099511627776) (h:Sat w0 w F) :
  Calls Tryz.prog 79 #[bv] w (aO fun v w'=>∃ da dc,v = .tuple #[.agg (dG (aj.read l).1 (.slice da (aj.read l).1.data.length dc)),.int .i64 (aj.read l).2.1,errno (aj.read l).2.2]∧Sat w0 w' (bJ (.slice da (aj.read l).1.data.length dc) (aj.read l).1.data::F)):=by
 obtain ⟨ba,bn,bc,rfl,hbn,hbc⟩:=hcap
 have hln:bn=l.length:=by
  obtain ⟨_,_,_,he,hl',_⟩:=hr w h
  cases he
  rw [aV,aiw]at hl';exact hl'.symm
 subst hln
 by_cases h9:l.length<9
 ·have Hf:=uQ (show aj.read l=(aj.zeroE,0,3) by unfold aj.read;rw [ac3 h9])
  have c1:(l.length:Int)<9:=by omega
  clear hr hH h9 hl
  go_enter Tryz.func79,Tryz.ntmps79
  go_wp2_with (first|((with_reducible refine qI ⟨?_⟩);refine rD aQ ?_;intro bE wE hE)|((with_reducible refine vw ⟨?_⟩);refine wU ?_)|((with_reducible refine oH ⟨?_⟩);first|(refine jI aQ ah ah (by first|rfl|assumption|exact akZ aQ) eF (by first|assumption|exact dW _ _ rfl|exact dW _ _ aQ|exact dW _ _ (akZ aQ)) ?_;intro wS hS)|(refine jI (e:=aj.zeroE) (da:=none) (dn:=0) (dc:=0) aQ ah ah rfl eF (by first|assumption|exact dW _ _ rfl|exact dW _ _ aQ|exact dW _ _ (akZ aQ)) ?_;intro wS hS)))
  rw [Hf.out]
  refine ⟨rfl,_,Aa rfl aQ ah aY rfl,_,rfl,none,0,rfl,Sat.fD.2 (Sat.sb hS)⟩
 obtain ⟨bk,off,rfl,hcell⟩:∃ bk off,ba=some ⟨bk,off,none⟩∧True:=by
  have hx:(aA l)[0]?=some (.int .u8 (l[0]'oQ).toNat):=by
   unfold aA;rw [aix,aak oQ];rfl
  obtain ⟨bk,off,hb,_⟩:=nU (hr w h) hx
  exact ⟨bk,off,hb,trivial⟩
 clear hcell
 have hrd:=hr w h
 have xG:=uQ (show ∀ (i j:Nat),i≤j→j≤l.length→∀ w,Sat w0 w F→bg 1 (.slice (some ⟨bk,off+i,none⟩) (j - i) (bc - i)) (aA ((l.take j).drop i)) w from fun i j h1 h2 w hw=>V9 (hr w hw) i j (bc - i) h1 h2)
 have Zf:=uQ (show ∀ w,Sat w0 w F→Calls Tryz.prog 128 #[.slice (some ⟨bk,off+4,none⟩) (l.length - 4) (bc - 4)] w (aO fun v w'=>v = .int .u32 (aj.num ((l.drop 4).take 4):Nat)∧w=w') from fun w hw=>Vq (l.drop 4) (by rw [adU];omega) _ (l.length - 4) (bc - 4) oQ oQ (by
  have:=xG.out 4 l.length oQ (acy _) w hw
  rw [aiv]at this
  exact this))
 have Zg:=uQ (show ∀ w,Sat w0 w F→Calls Tryz.prog 128 #[.slice (some ⟨bk,off,none⟩) l.length bc] w (aO fun v w'=>v = .int .u32 (aj.num (l.take 4):Nat)∧w=w') from fun w hw=>Vq l oQ _ l.length bc hbn hbc (hr w hw))
 have nK:=uQ (show aj.read l=if aj.fits (l.getD 8 0) (aj.num ((l.drop 4).take 4))=false then (aj.zeroE,0,4)
  else if l.length<aj.num ((l.drop 4).take 4) then (aj.zeroE,0,3)
  else if aj.crc ((l.take (aj.num ((l.drop 4).take 4))).drop 4)≠aj.num (l.take 4) then (aj.zeroE,0,13)
  else if 41≤aj.num ((l.drop 4).take 4) then (⟨(l.getD 8 0).toNat,(l.drop 9).take 32,(l.take (aj.num ((l.drop 4).take 4))).drop 41⟩,aj.num ((l.drop 4).take 4),0)
  else (⟨(l.getD 8 0).toNat,aj.zero32,[]⟩,aj.num ((l.drop 4).take 4),0) by unfold aj.read;rw [abw h9])
 have hN:aj.num ((l.drop 4).take 4)<4294967296:=by
  have:=aj.vX ((l.drop 4).take 4)
  rw [acJ,adU]at this
  have h4:min 4 (l.length - 4)=4:=by omega
  rw [h4]at this
  omega
 generalize hNN:aj.num ((l.drop 4).take 4)=N at *
 have hfits:=fun w=>ab4 (l.getD 8 0) N hN w
 have hfg:aj.fits (l.getD 8 0) N=true→9≤N:=by
  unfold aj.fits
  intro hh
  split at hh
  ·have:=akE hh;omega
  ·split at hh
   ·have:=akE hh;omega
   ·split at hh
    ·have:=akE hh;omega
    ·cases hh
 have hc8:∀ w,Sat w0 w F→w.cell? ⟨bk,off+8,none⟩=some (.int .u8 (l.getD 8 0).toNat):=fun w hw=>by
  have hx:(aA l)[8]?=some (.int .u8 (l.getD 8 0).toNat):=by
   unfold aA;rw [aix,adP,aak oQ];rfl
  obtain ⟨ED,off',hb,hc⟩:=nU (hr w hw) hx
  cases hb
  exact hc _ _ hx
 have xg:=uQ hc8;have Hr:=uQ hr;have HH:=uQ hH;have Hl:=uQ hl;have Y5:=uQ hfg;have Y6:=uQ hfits
 have c1:¬ (l.length:Int)<9:=by omega
 have c2:¬ bc=4:=by omega
 have c3:(4:Int)≤(l.length:Int):=by omega
 have c4:(l.length:Int)≤(bc:Int):=by omega
 have c5:(8:Int)<(l.length:Int):=by omega
 have uS:=uQ (show l.length≤bc∧bc≤9223372036854775807∧9≤l.length∧N<4294967296 from ⟨hbn,hbc,by omega,hN⟩)
 have hcv:IntKind.i64.wrap (N:Int)=(N:Int):=by rw [ajt];omega
 clear hrd hNN hc8 hr hH hl h9 hbn hbc hfg hfits hN
 generalize l.getD 8 0=tg at *
 have Ug:=tg.toNat_lt
 have hct:IntKind.i64.wrap (tg.toNat:Int)=(tg.toNat:Int):=by rw [ajt];omega
 have htb:(tg.toNat:Int)<256:=by omega
 go_enter Tryz.func79,Tryz.ntmps79
 go_wp2_with ((with_reducible refine qI ⟨?_⟩);refine rD aQ ?_;intro bE wE hE)
 refine (Zf.out _ hE.drop).mono ?_
 rintro ee w2 ⟨v,rfl,rfl,rfl⟩
 have e8:=xg.out _ hE.drop
 go_wp2_with fail
 refine (Y6.out _).mono ?_
 rintro ee w2 ⟨v,rfl,rfl,rfl⟩
 cases hft:aj.fits tg N
 ·have Hf:=uQ (nK.out.trans (ac3 hft))
  clear hft
  go_wp2_with (first|((with_reducible refine vw ⟨?_⟩);refine wU ?_)|((with_reducible refine oH ⟨?_⟩);first|(refine jI aQ ah ah (by first|rfl|assumption|exact akZ aQ) eF (by first|assumption|exact dW _ _ rfl|exact dW _ _ aQ|exact dW _ _ (akZ aQ)) ?_;intro wS hS)|(refine jI (e:=aj.zeroE) (da:=none) (dn:=0) (dc:=0) aQ ah ah rfl eF (by first|assumption|exact dW _ _ rfl|exact dW _ _ aQ|exact dW _ _ (akZ aQ)) ?_;intro wS hS)))
  rw [Hf.out]
  refine ⟨rfl,_,Aa rfl aQ ah aY rfl,_,rfl,none,0,rfl,Sat.fD.2 (Sat.sb hS)⟩
 have Hf:=uQ (nK.out.trans (abw (by rw [hft];decide)))
 have SV:=Y5.out hft
 clear hft
 by_cases Fe:l.length<N
 ·have AV:=uQ (Hf.out.trans (ac3 Fe))
  have c6:(l.length:Int)<(N:Int):=by omega
  clear Fe SV
  go_wp2_with (first|((with_reducible refine vw ⟨?_⟩);refine wU ?_)|((with_reducible refine oH ⟨?_⟩);first|(refine jI aQ ah ah (by first|rfl|assumption|exact akZ aQ) eF (by first|assumption|exact dW _ _ rfl|exact dW _ _ aQ|exact dW _ _ (akZ aQ)) ?_;intro wS hS)|(refine jI (e:=aj.zeroE) (da:=none) (dn:=0) (dc:=0) aQ ah ah rfl eF (by first|assumption|exact dW _ _ rfl|exact dW _ _ aQ|exact dW _ _ (akZ aQ)) ?_;intro wS hS)))
  rw [AV.out]
  refine ⟨rfl,_,Aa rfl aQ ah aY rfl,_,rfl,none,0,rfl,Sat.fD.2 (Sat.sb hS)⟩
 have AV:=uQ (Hf.out.trans (abw Fe))
 clear Hf nK
 have c6:¬ (l.length:Int)<(N:Int):=by omega
 have c7:(4:Int)≤(N:Int):=by omega
 have c8:(N:Int)≤(bc:Int):=by omega
 have xB:=uQ (show N≤l.length∧9≤N by omega)
 clear Fe SV
 go_wp2_with fail
 refine (J5 ((l.take N).drop 4) (Ro.os HH.out) (fun w hw=>xG.out 4 N (by have:=xB.out;omega) xB.out.1 w (hw.sb)) hE (by rw [adU,acJ];have:=Hl.out;omega)).mono ?_
 rintro ee w2 ⟨v,rfl,rfl,rfl⟩
 go_wp2_with fail
 refine (Zg.out _ hE.drop).mono ?_
 rintro ee w2 ⟨v,rfl,rfl,rfl⟩
 generalize aj.crc ((l.take N).drop 4)=A at *
 generalize aj.num (l.take 4)=B at *
 by_cases hAB:A=B
 rotate_left
 ·have Eb:=uQ (AV.out.trans (ac3 hAB))
  have c9:((A:Int)==(B:Int))=false:=by rw [adW];omega
  clear hAB
  go_wp2_with (first|((with_reducible refine vw ⟨?_⟩);refine wU ?_)|((with_reducible refine oH ⟨?_⟩);first|(refine jI aQ ah ah (by first|rfl|assumption|exact akZ aQ) eF (by first|assumption|exact dW _ _ rfl|exact dW _ _ aQ|exact dW _ _ (akZ aQ)) ?_;intro wS hS)|(refine jI (e:=aj.zeroE) (da:=none) (dn:=0) (dc:=0) aQ ah ah rfl eF (by first|assumption|exact dW _ _ rfl|exact dW _ _ aQ|exact dW _ _ (akZ aQ)) ?_;intro wS hS)))
  rw [Eb.out]
  refine ⟨rfl,_,Aa rfl aQ ah aY rfl,_,rfl,none,0,rfl,Sat.fD.2 (Sat.sb hS)⟩
 subst hAB
 have Eb:=uQ (AV.out.trans (abw (fun h=>h rfl)))
 clear AV
 by_cases oI:41≤N
 rotate_left
 ·have IY:=uQ (Eb.out.trans (abw oI))
  have c9:¬ (41:Int)≤(N:Int):=by omega
  clear oI
  go_wp2_with (first|((with_reducible refine Qa ⟨?_⟩);refine Yf ah ?_)|((with_reducible refine qI ⟨?_⟩);refine rD aQ ?_;intro bE wE hE)|((with_reducible refine oH ⟨?_⟩);first|(refine jI aQ ah ah (by first|rfl|assumption|exact akZ aQ) eF (by first|assumption|exact dW _ _ rfl|exact dW _ _ aQ|exact dW _ _ (akZ aQ)) ?_;intro wS hS)|(refine jI (e:=aj.zeroE) (da:=none) (dn:=0) (dc:=0) aQ ah ah rfl eF (by first|assumption|exact dW _ _ rfl|exact dW _ _ aQ|exact dW _ _ (akZ aQ)) ?_;intro wS hS))|((with_reducible refine Bz ⟨?_⟩);refine DV aQ ah aY (by first|rfl|assumption|exact akZ aQ) ?_))
  rw [IY.out]
  simp only [ajn]
  refine ⟨rfl,_,Aa rfl aQ ah aY rfl,_,rfl,none,0,rfl,Sat.fD.2 (Sat.sb hS)⟩
 have IY:=uQ (Eb.out.trans (ac3 oI))
 have jZ:=uQ (show ((l.drop 9).take 32).length=32 by rw [acJ,adU];have:=xB.out;omega)
 have Ef:=uQ (show (aA ((l.drop 9).take 32)).length=32 by rw [aV];exact jZ.out)
 have Zl:=uQ (show ∀ w,Sat w0 w F→w.rangeAt bk (off+9) (aA ((l.drop 9).take 32)) from fun w hw=>by
  intro j y hj
  have hsb:=xG.out 9 41 aN (by have:=xB.out;omega) w hw
  have e:(l.take 41).drop 9=(l.drop 9).take 32:=by rw [List.drop_take]
  rw [e]at hsb
  obtain ⟨b',o',hb,hc⟩:=nU hsb hj
  cases hb
  exact hc _ _ hj)
 have c9:(41:Int)≤(N:Int):=by omega
 have c10:¬ bc=9:=by have:=xB.out;have:=uS.out;omega
 have c11:(41:Int)≤(bc:Int):=by omega
 obtain ⟨ad,had,hsl⟩:∃ ad:Addr,(41<N→ad=⟨bk,off+41,none⟩)∧∀ w,(Instr.sliceAt 36 (.slice (some ⟨bk,off,none⟩) l.length bc) (some (.int .i64 41)) (some (.int .i64 N)) none).run Tryz.prog w = .ok (.slice (some ad) (N - 41) (bc - 41)) w:=by
  by_cases hce:bc=41
  ·refine ⟨⟨bk,off,none⟩,fun hh=>by have:=xB.out;have:=uS.out;omega,fun w=>?_⟩
   have c12:(N:Int)≤41:=by omega
   have c13:¬ (41:Int)<(N:Int):=by omega
   go_simp
  ·refine ⟨⟨bk,off+41,none⟩,fun _=>rfl,fun w=>?_⟩
   go_simp
 have YK:=uQ had
 have Y1:=uQ (show ∀ w,Sat w0 w F→bg 1 (.slice (some ad) (N - 41) (bc - 41)) (aA ((l.take N).drop 41)) w from fun w hw=>by
  by_cases h2:41<N
  ·rw [YK.out h2];exact xG.out 41 N oQ xB.out.1 w hw
  ·have:(l.take N).drop 41=[]:=aiz (by rw [acJ];omega)
   rw [this,show N - 41=0 by omega]
   exact ⟨_,0,_,rfl,rfl,by simp [aA]⟩)
 clear oI had
 have hat:=fun w=>agC ⟨bk,off+9,none⟩ (bc - 9) w
 go_wp2_with (first
  |((with_reducible refine Qa ⟨?_⟩);refine Yf ah ?_)|((with_reducible refine qI ⟨?_⟩);refine rD aQ ?_;intro bE wE hE)|((with_reducible refine oH ⟨?_⟩);first|(refine jI aQ ah ah (by first|rfl|assumption|exact akZ aQ) eF (by first|assumption|exact dW _ _ rfl|exact dW _ _ aQ|exact dW _ _ (akZ aQ)) ?_;intro wS hS)|(refine jI (e:=aj.zeroE) (da:=none) (dn:=0) (dc:=0) aQ ah ah rfl eF (by first|assumption|exact dW _ _ rfl|exact dW _ _ aQ|exact dW _ _ (akZ aQ)) ?_;intro wS hS))
  |((with_reducible refine bD ⟨?_⟩);refine wpList_load_mid ah 31 _ ah bk (off+9) ah (aA ((l.drop 9).take 32)) _ (Zl.out _ (Sat.sb aQ)) Tryz.underlying31 rfl (by rw [Ef.out];kernel_rfl) ?_)
  |((with_reducible refine bY ⟨?_⟩);refine aiN (key:=(l.drop 9).take 32) aQ ah ah rfl jZ.out eF ?_;intro wK hK)
  |((with_reducible refine aai ⟨?_⟩);refine aiL ah ah ah hsl ?_))
 refine (tZ hK (Y1.out _ (hK.sb)) (by rw [adU,acJ];have:=Hl.out;omega)).mono ?_
 rintro ee w3 ⟨v,rfl,hS3,ca,cn,cc,rfl⟩
 have hcn:cn=((l.take N).drop 41).length:=by
  obtain ⟨_,_,_,he,hl',_⟩:=Sat.rd hS3
  cases he
  rw [aV,aiw]at hl';exact hl'.symm
 subst hcn
 have OV:=jZ.out
 generalize (l.drop 9).take 32=key at *
 generalize (l.take N).drop 41=data at *
 go_wp2_with (first
  |((with_reducible refine bY ⟨?_⟩);refine aiM (e:=⟨(tg.toNat:Int),key,[]⟩) (data:=data) aQ ah ah OV eF ?_;intro wD hD)
  |((with_reducible refine Bz ⟨?_⟩);refine DV aQ ah aY (by first|rfl|assumption|exact akZ aQ) ?_)|((with_reducible refine oH ⟨?_⟩);first|(refine jI aQ ah ah (by first|rfl|assumption|exact akZ aQ) eF (by first|assumption|exact dW _ _ rfl|exact dW _ _ aQ|exact dW _ _ (akZ aQ)) ?_;intro wS hS)|(refine jI (e:=aj.zeroE) (da:=none) (dn:=0) (dc:=0) aQ ah ah rfl eF (by first|assumption|exact dW _ _ rfl|exact dW _ _ aQ|exact dW _ _ (akZ aQ)) ?_;intro wS hS)))
 rw [IY.out]
 simp only
 refine ⟨rfl,_,Aa rfl aQ ah aY OV,_,rfl,ca,cc,rfl,Sat.sb hS⟩
end
end Go.Proofs.YtiglchkhikciiaaGreatDoor
namespace Go.aj
structure fO where
 e:aP
 at_:Nat
 size:Nat
def mQ:Nat→Bs→Nat→List fO×Nat×Int
 |0,_,at_=>([],at_,0)
 |k+1,b,at_=>
  if b=[] then ([],at_,0)
  else if (read b).2.2≠0 then ([],at_,(read b).2.2)
  else (⟨(read b).1,at_,(read b).2.1⟩::(mQ k (b.drop (read b).2.1) (at_+(read b).2.1)).1,(mQ k (b.drop (read b).2.1) (at_+(read b).2.1)).2)
def qQ:Bs:=[72,79,65,82,68,83,69,71]
def scan (b:Bs):List fO×Nat×Int:=if b.take 8=qQ then mQ b.length (b.drop 8) 8 else ([],0,4)
end Go.aj
namespace Go.Proofs.YtiglchkhikciiaaGreatDoor
open Go Go.Sl Go.ay Go.MapKept Go.RowKit
section
variable {w0 w:World}{F R:List aG}{v bv dv x lv av:Value}
theorem Wh {l:Bs} (h:bg 1 v (aA l) w):(convert 36 9 v).run Tryz.prog w = .ok (.string ⟨l.toArray⟩) w:=by
 obtain ⟨a,n,c,rfl,hl,hx⟩:=h
 rw [aV,aiw]at hl
 subst hl
 cases a with
 |none=>
  obtain rfl:l=[]:=by
   cases l with
   |nil=>rfl
   |cons d l=>obtain ⟨b,hb,_⟩:=hx 0 _ rfl;cases hb
  exact Lib.run_convert_nil_bytes (P:=Tryz.prog) w _ _ 5 c Tryz.underlying36 Tryz.underlying5 Tryz.underlying9
 |some ad=>
  refine run_convert_bytes_back (P:=Tryz.prog) w _ _ 5 ad c l Tryz.underlying36 Tryz.underlying5 Tryz.underlying9 (fun j hj=>?_)
  have hy:(aA l)[j]?=some (.int .u8 (l[j]'hj).toNat):=by unfold aA;rw [aix,aak hj];rfl
  obtain ⟨b,hb,hc⟩:=hx _ _ hy
  cases hb
  simpa using hc
theorem aay (la lb:Bs) (ha:bg 1 av (aA la) w) (hb:bg 1 bv (aA lb) w) :
  Calls Tryz.prog 127 #[av,bv] w (aO fun v w'=>v = .bool (decide (la=lb))∧w=w'):=by
 have h1:=Wh ha
 have h2:=Wh hb
 have He:=uQ (show ((la.toArray.toList:List UInt8)==lb.toArray.toList)=decide (la=lb) by
  rw [akJ,akr,adN])
 clear ha hb
 go_enter Tryz.func127,Tryz.ntmps127
 go_wp2
 go_ret
 rw [← He.out]
 exact ⟨_,rfl,rfl,rfl⟩
theorem acR (l lp:Bs) (a:Option Addr) (n c:Nat) (hn:n≤c) (hc:c≤9223372036854775807) (ha:bg 1 (.slice a n c) (aA l) w) (pa:Option Addr) (pn pc:Nat) (hp:bg 1 (.slice pa pn pc) (aA lp) w) :
  Calls Tryz.prog 78 #[.slice a n c,.slice pa pn pc] w (aO fun v w'=>v = .bool (decide (l.take lp.length=lp))∧w=w'):=by
 have hln:n=l.length:=by
  obtain ⟨_,_,_,he,hl',_⟩:=ha
  cases he
  rw [aV,aiw]at hl';exact hl'.symm
 have hpn:pn=lp.length:=by
  obtain ⟨_,_,_,he,hl',_⟩:=hp
  cases he
  rw [aV,aiw]at hl';exact hl'.symm
 subst hln hpn
 by_cases hle:lp.length≤l.length
 ·have h4:=V8 (k:=lp.length) ha
  rw [show min l.length lp.length=lp.length by omega]at h4
  have hq:=aay _ _ h4 hp
  have c1:(lp.length:Int)≤(l.length:Int):=by omega
  have c2:(lp.length:Int)≤(c:Int):=by omega
  have c3:lp.length≤l.length:=hle
  clear h4 ha hp
  go_enter Tryz.func78,Tryz.ntmps78
  go_wp2_with (go_at_call 127;refine hq.mono ?_;rintro e w1 ⟨v,rfl,rfl,rfl⟩)
  go_ret
  exact ⟨_,rfl,rfl,rfl⟩
 ·have c1:¬ lp.length≤l.length:=hle
  have c2:decide ((lp.length:Int)≤(l.length:Int))=false:=aex oQ
  have He:=uQ (show decide (l.take lp.length=lp)=false by
   apply aex
   intro hh
   have:=aje List.length hh
   rw [acJ]at this
   omega)
  clear ha hp
  go_enter Tryz.func78,Tryz.ntmps78
  go_wp2
  go_ret
  rw [He.out]
  exact ⟨_,rfl,rfl,rfl⟩
end
end Go.Proofs.YtiglchkhikciiaaGreatDoor
namespace Go.aj
def Qz (long:Nat) (x:aP):aP:=⟨x.tag,x.key,x.data.take long⟩
def few (l:List aP) (n long:Nat):List aP:=(l.take n).map (Qz long)
end Go.aj
namespace Go.Proofs.YtiglchkhikciiaaGreatDoor
open Go Go.Sl Go.ay Go.MapKept Go.RowKit
section
variable {w0 w:World}{F R:List aG}{v bv dv x lv:Value}
theorem afU {k:Nat}{l:Bs}{a:Option Addr}{n c:Nat} (h:bg 1 (.slice a n c) (aA l) w):bg 1 (.slice a (min n k) c) (aA (l.take k)) w:=by
 obtain ⟨a',n',c',he,hl,hx⟩:=h
 cases he
 rw [aV,aiw]at hl
 refine ⟨a,_,c,rfl,by rw [aV,acJ];omega,fun j y hj=>?_⟩
 have hj':(aA l)[j]?=some y:=by
  unfold aA at hj ⊢
  rw [ala,ajl]at hj
  split at hj
  ·exact hj
  ·cases hj
 exact hx j y hj'
theorem Q9 (e:aj.aP) (a:Option Addr) (n c:Nat):(dG e (.slice a n c)).toList.all (·.oneCell')=true:=by
 unfold dG kW
 rw [adM,alE,ajZ]
 have:(aA e.key).all (·.oneCell')=true:=ajE.2 (tX _)
 rw [this];rfl
end
end Go.Proofs.YtiglchkhikciiaaGreatDoor
namespace Go.aj
theorem Wn {b:Bs} (h:(read b).2.2=0):9≤(read b).2.1∧(read b).2.1≤b.length∧(read b).1.key.length=32:=by
 unfold read at *
 dsimp only at *
 split at h
 ·simp at h
 rename_i h9
 rw [abw h9]
 split at h
 ·simp at h
 rename_i hf
 rw [abw hf]
 split at h
 ·simp at h
 rename_i hl
 rw [abw hl]
 split at h
 ·simp at h
 rename_i hc
 rw [abw hc]
 have hfit:fits (b.getD 8 0) (num ((b.drop 4).take 4))=true:=by
  cases hh:fits (b.getD 8 0) (num ((b.drop 4).take 4)) with
  |true=>rfl
  |false=>exact absurd hh hf
 have zD:9≤num ((b.drop 4).take 4):=by
  unfold fits at hfit
  split at hfit
  ·have:=akE hfit;omega
  ·split at hfit
   ·have:=akE hfit;omega
   ·split at hfit
    ·have:=akE hfit;omega
    ·cases hfit
 split
 ·rename_i oI
  refine ⟨zD,Nat.not_lt.1 hl,?_⟩
  simp only [acJ,adU]
  omega
 ·exact ⟨zD,Nat.not_lt.1 hl,rfl⟩
theorem MX (b:Bs):(read b).1.key.length=32:=by
 unfold read
 dsimp only
 split
 ·rfl
 split
 ·rfl
 split
 ·rfl
 split
 ·rfl
 rename_i h9 hf hl hc
 split
 ·rename_i oI
  simp only [acJ,adU]
  omega
 ·rfl
end Go.aj
namespace Go.Proofs.YtiglchkhikciiaaGreatDoor
open Go Go.Sl Go.ay Go.MapKept Go.RowKit
def ug (f:aj.fO) (dv:Value):List Value:=kW f.e dv++[.int .i64 f.at_,.int .i64 f.size]
def kG (f:aj.fO) (dv:Value):Array Value:=(ug f dv).toArray
def lq (fs:List (aj.fO×Value)):List Value:=fs.flatMap fun p=>ug p.1 p.2
def pq (fs:List (aj.fO×Value)):aG:=stars (fs.map fun p=>bJ p.2 p.1.e.data)
theorem BK (f:aj.fO) (dv:Value) (hk:f.e.key.length=32):(ug f dv).length=36:=by unfold ug;rw [aal,Rf _ _ hk];rfl
theorem yc (f:aj.fO) (dv:Value) (hk:f.e.key.length=32):(kG f dv).size=36:=by unfold kG;rw [aaI,BK _ _ hk]
theorem RG {fs:List (aj.fO×Value)} (hk:∀ p∈fs,p.1.e.key.length=32):(lq fs).length=36 * fs.length:=by
 unfold lq
 induction fs with
 |nil=>rfl
 |cons p fs ih=>
  rw [ai7,aal,ih (fun q hq=>hk q (.tail _ hq)),BK _ _ (hk p (.head _)),aja];omega
theorem acd (es fs:List (aj.fO×Value)):lq (es++fs)=lq es++lq fs:=by unfold lq;rw [ajj]
theorem aa7 (es:List (aj.fO×Value)) (x:aj.fO) (dv:Value):pq (es++[(x,dv)])=star (bJ dv x.e.data) (pq es):=by
 unfold pq
 rw [aey,pK,Aj]
 show star (stars [bJ dv x.e.data]) _=_
 rw [Ak]
theorem afq:qW Tryz.prog 80=some [(0,34),(34,1),(35,1)]:=by kernel_rfl
def OI:aj.fO:=⟨aj.zeroE,0,0⟩
theorem Yu:jy Tryz.prog 80=some (.agg (kG OI (.slice none 0 0))):=by kernel_rfl
theorem afD (cs:Array Value) (hs:cs.size=36) (el:List Value) (u v:Value) (hk:el.length=34):(dM (dM (dM cs 0 el) 34 [u]) 35 [v]).toList=el++[u,v]:=by
 have hcl:cs.toList.length=36:=by simpa using hs
 have e1:(dM cs 0 el).toList=el++cs.toList.drop 34:=by
  rw [jU _ _ _ oQ,ajD,ajd,aen,hk]
 have e2:(dM (dM cs 0 el) 34 [u]).toList=el++[u]++cs.toList.drop 35:=by
  rw [jU _ _ _ (by rw [jM];simp;omega),e1,ajb oQ,aeb oQ,adX,ak7,hk,aiz (l:=el) oQ,ajd,ak3]
 have h3:(el++[u]).length=35:=by simp [hk]
 rw [jU _ _ _ (by rw [jM,jM];simp;omega),e2,ajb oQ,aeb oQ,adX,aiz (by rw [aal,h3,adU];omega)]
 simp
set_option maxRecDepth 20000 in
theorem agE (e:aj.aP) (hk:e.key.length=32) (da:Option Addr) (dn dc:Nat) (at_ n:Nat) (w:World) :
  (Instr.build 80 #[(0,.agg (dG e (.slice da dn dc))),(1,.int .i64 at_),(2,.int .i64 n)]).run Tryz.prog w = .ok (.agg (kG ⟨e,at_,n⟩ (.slice da dn dc))) w:=by
 have hz:(kG OI (.slice none 0 0)).size=36:=yc _ _ rfl
 have he:(dG e (.slice da dn dc)).size=34:=dW _ _ hk
 have h:=ak8 (P:=Tryz.prog) [(0,.agg (dG e (.slice da dn dc))),(1,.int .i64 at_),(2,.int .i64 n)] afq Yu (by
  intro p hp
  simp only [aer,ajU,alb]at hp
  have hzz:(Value.agg (kG OI (.slice none 0 0))).cells.size=36:=hz
  rw [hzz]
  rcases hp with rfl|rfl|rfl
  ·refine ⟨0,?_,?_⟩
   ·show some (0,34)=some (0,(dG e (.slice da dn dc)).size);rw [he]
   ·show 0+(dG e (.slice da dn dc)).size≤36;omega
  ·exact ⟨34,rfl,by show 34+1≤36;omega⟩
  ·exact ⟨35,rfl,by show 35+1≤36;omega⟩) w
 refine h.trans ?_
 congr 2
 apply nT
 exact afD _ hz _ _ _ (show (dG e (.slice da dn dc)).toList.length=34 by rw [adu,he])
section
variable {w0 w:World}{L L' R:List aG}{b:Nat}{ops:Array Oper}{rest:List Oper}{a:Act}{Q:Exit→Act→World→Prop}
variable {dst:Option Tmp}{t T ty:TypeId}{pos:String}{after:Array Edge}{x y z:Operand}{cs:Array Value}{v v1 v2 v3:Value}{i1 i2 i3:Nat}{P:Program}
theorem Ye (h1:a.eval x=v1) (h2:a.eval y=v2) (h3:a.eval z=v3) (hr:∀ w,(Instr.build ty #[(i1,v1),(i2,v2),(i3,v3)]).run P w = .ok v w) (h:wpList P ops Q rest (a.put dst v) w) :
  wpList P ops Q (⟨dst,.build ty #[(i1,x),(i2,y),(i3,z)],t,pos,after,none⟩::rest) a w:=
 ajx rfl fun _ hK=>by
  unfold Oper.wp execOp
  simp only [ajR,ag8,ajP,h1,h2,h3,adO,hr,ac2,aeC]
  exact hK _ _ h
theorem P9 (h:Stop (wpList P ops Q (⟨dst,.build ty #[(i1,x),(i2,y),(i3,z)],t,pos,after,none⟩::rest) a w)):wpList P ops Q (⟨dst,.build ty #[(i1,x),(i2,y),(i3,z)],t,pos,after,none⟩::rest) a w:=h.out
theorem RD (f:aj.fO) (a:Option Addr) (n c:Nat):(kG f (.slice a n c)).toList.all (·.oneCell')=true:=by
 unfold kG ug
 rw [adM,ajZ]
 have h1:(kW f.e (.slice a n c)).all (·.oneCell')=true:=by
  have:=Q9 f.e a n c
  unfold dG at this
  rwa [adM]at this
 rw [h1];rfl
end
end Go.Proofs.YtiglchkhikciiaaGreatDoor
namespace Go.Seg
def Log.next (L:Log):Int:=match L.l.getLast? with
 |none=>0
 |some s=>s.1+1
end Go.Seg
namespace Go.Proofs.YtiglchkhikciiaaGreatDoor
open Go Go.Sl Go.ay Go.MapKept Go.RowKit
section
variable {w0 w:World}{F:List aG}{v bv dv x lv:Value}{q p m K:Nat}{L:Seg.Log}{M:ay}
theorem Ag (l:List (Int×Int)) (i:Nat) (s:Int×Int) (h:l[i]?=some s):(dR l)[2 * i]?=some (.int .i64 s.1)∧(dR l)[2 * i+1]?=some (.int .i64 s.2):=by
 induction l generalizing i with
 |nil=>simp at h
 |cons a l ih=>
  cases i with
  |zero=>
   obtain rfl:a=s:=by simpa using h
   exact ⟨rfl,rfl⟩
  |succ i=>
   have e1:dR (a::l) = .int .i64 a.1 :: .int .i64 a.2::dR l:=rfl
   have h':l[i]?=some s:=by simpa using h
   rw [e1,show 2 * (i+1)=2 * i+1+1 by omega]
   exact ih i h'
theorem ad9 {s:Int×Int} (hl:L.l.getLast?=some s) (h:Sat w0 w (lD p m L lv::aC 153 2 lv (dR L.l)::F)) :
  ∃ bk n c,lv = .slice (some ⟨bk,0,none⟩) (n+1) c∧L.l.length=n+1∧w.cell? ⟨bk,2 * n,none⟩=some (.int .i64 s.1)∧w.cell? ⟨bk,2 * n+1,none⟩=some (.int .i64 s.2):=by
 rw [ajS]at hl
 have hlt:=(abl.1 hl).1
 obtain ⟨n,hn⟩:∃ n,L.l.length=n+1:=⟨L.l.length - 1,by omega⟩
 rw [hn,akW]at hl
 obtain ⟨h1,h2⟩:=Ag _ _ _ hl
 have hS:Sat w0 w (aC 153 2 lv (dR L.l)::lD p m L lv::F):=h.aZ
 rcases hS.jQ with ⟨rfl,hx,_⟩|⟨b,n',cap,cs,rfl,hll,hn',hc,hcm,htk,hp⟩
 ·rw [hx]at h1;simp at h1
 ·rw [jW,hn]at hll
  obtain rfl:n'=n+1:=by omega
  exact ⟨b,n,cap,rfl,hn,hp.cellAt _ _ (jS htk h1),hp.cellAt _ _ (jS htk h2)⟩
theorem ahA (hlen:L.l.length≤1048576) (hb:∀ s∈L.l,0≤s.1∧s.1<1048576) (h:Sat w0 w (lD p m L lv::aC 153 2 lv (dR L.l)::F)) :
  Calls Tryz.prog 166 #[ptr p] w (aO fun v w'=>v = .int .i64 L.next∧Sat w0 w' (lD p m L lv::aC 153 2 lv (dR L.l)::F)):=by
 cases hl:L.l.getLast? with
 |none=>
  have hnil:=akP.1 hl
  refine (aeT hnil h).mono ?_
  rintro e w1 ⟨v,rfl,rfl,rfl⟩
  exact ⟨_,rfl,by unfold Seg.Log.next;rw [hl],h⟩
 |some s=>
  have bH:=uQ (show L.next=s.1+1 by unfold Seg.Log.next;rw [hl])
  have hs:=hb s (akj hl)
  obtain ⟨bk,n,c,rfl,hn,c1,c2'⟩:=ad9 hl h
  have hok:=qV h
  have c2:=h.cellAt 2 _ rfl
  have hS:=h.drew
  have c1':w.drew.cell? ⟨bk,n * 2,none⟩=some (.int .i64 s.1):=by rw [ajW];exact c1
  have hwn:IntKind.i64.wrap (n:Int)=(n:Int):=by rw [ajt];omega
  have hn0:(n:Int)<(n:Int)+1:=by omega
  have cd:w.drew.cell? ⟨p,2,none⟩=some (.slice (some ⟨bk,0,none⟩) (n+1) c):=c2
  have hw1:IntKind.i64.wrap (s.1+1)=s.1+1:=by rw [ajt];omega
  have Hs:=uQ hs;have Hn:=uQ hn
  clear hs hn hb hlen hl c2'
  go_enter Tryz.func166,Tryz.ntmps166
  go_wp2_with (go_at_call 74;refine hok.mono ?_;rintro e w1 ⟨v,rfl,rfl,rfl⟩)
  go_region
  go_wp2
  go_ret
  exact ⟨_,rfl,by rw [bH.out];rfl,hS⟩
end
end Go.Proofs.YtiglchkhikciiaaGreatDoor
namespace Go.Seg
open Go.ay
structure aU where
 seg:Int
 at_:Int
 size:Int
def aU.zero:aU:=⟨0,0,0⟩
def mag:Bs:=[72,79,65,82,68,83,69,71]
def Log.grow (L:Log) (M:ay) (b:Bs):(Log×ay)×aU×Int:=
 match L.l.getLast? with
 |none=>((L,M),aU.zero,0)
 |some s=>
  if (M.append (name s.1) b).2=0 then (({ L with l:=L.l.dropLast++[(s.1,s.2+(b.length:Int))] },(M.append (name s.1) b).1),⟨s.1,s.2,b.length⟩,0)
  else ((L,(M.append (name s.1) b).1),aU.zero,(M.append (name s.1) b).2)
def Log.shut (L:Log) (M:ay):(Log×ay)×Int:=
 match L.l.getLast? with
 |none=>((L,M),0)
 |some s=>
  if L.on=true then
   if (M.sync (name s.1)).2=0 then (({ L with on:=false },(M.sync (name s.1)).1),0)
   else ((L,(M.sync (name s.1)).1),(M.sync (name s.1)).2)
  else ((L,M),0)
def Log.je (L:Log) (M:ay) (b:Bs):(Log×ay)×aU×Int:=
 if 1048576≤L.next then ((L,M),aU.zero,16)
 else if (M.create (name L.next)).2≠0 then ((L,(M.create (name L.next)).1),aU.zero,(M.create (name L.next)).2)
 else if ((M.create (name L.next)).1.append (name L.next) (mag++b)).2=0 then
  (({ L with l:=L.l++[(L.next,8+(b.length:Int))],on:=true,fresh:=L.fresh+1 },((M.create (name L.next)).1.append (name L.next) (mag++b)).1),⟨L.next,8,b.length⟩,0)
 else if ((M.create (name L.next)).1.append (name L.next) (mag++b)).2=11 then
  ((L,(((M.create (name L.next)).1.append (name L.next) (mag++b)).1.remove (name L.next)).1),aU.zero,
   if (((M.create (name L.next)).1.append (name L.next) (mag++b)).1.remove (name L.next)).2=0 then 11 else (((M.create (name L.next)).1.append (name L.next) (mag++b)).1.remove (name L.next)).2)
 else ((L,((M.create (name L.next)).1.append (name L.next) (mag++b)).1),aU.zero,((M.create (name L.next)).1.append (name L.next) (mag++b)).2)
def Log.begin (L:Log) (M:ay) (b:Bs):(Log×ay)×aU×Int:=
 if (L.shut M).2=0 then (L.shut M).1.1.je (L.shut M).1.2 b else ((L.shut M).1,aU.zero,(L.shut M).2)
def Log.fits (L:Log) (n:Nat):Bool:=L.on && decide ((L.l.getLast?.map (·.2)).getD 0+n≤L.limit)
def Log.append (L:Log) (M:ay) (x:aj.aP):(Log×ay)×aU×Int:=
 if (aj.encode x).2≠0 then ((L,M),aU.zero,(aj.encode x).2)
 else if L.fits (aj.encode x).1.length=true then L.grow M (aj.encode x).1 else L.begin M (aj.encode x).1
def dA:aj.aP:=⟨2,aj.zero32,[]⟩
def Log.commit (L:Log) (M:ay):(Log×ay)×Int×Int:=
 if (L.append M dA).2.2≠0 then ((L.append M dA).1,0,(L.append M dA).2.2)
 else if ((L.append M dA).1.2.sync (name (L.append M dA).2.1.seg)).2≠0 then (((L.append M dA).1.1,((L.append M dA).1.2.sync (name (L.append M dA).2.1.seg)).1),0,((L.append M dA).1.2.sync (name (L.append M dA).2.1.seg)).2)
 else if (((L.append M dA).1.2.sync (name (L.append M dA).2.1.seg)).1.dN).2≠0 then (((L.append M dA).1.1,(((L.append M dA).1.2.sync (name (L.append M dA).2.1.seg)).1.dN).1),0,(((L.append M dA).1.2.sync (name (L.append M dA).2.1.seg)).1.dN).2)
 else (({ (L.append M dA).1.1 with on:=false,fresh:=0 },(((L.append M dA).1.2.sync (name (L.append M dA).2.1.seg)).1.dN).1),(L.append M dA).2.1.seg,0)
def Log.at (L:Log) (n:Int):Option Nat:=L.l.findIdx? (fun s=>s.1==n)
def Log.find (L:Log) (n:Int):Int:=match L.at n with
 |some i=>i
 |none=> -1
def Log.without (L:Log) (i:Nat):Log:=
 ⟨L.limit,L.l.eraseIdx i,if i+1=L.l.length then false else L.on,if (L.l.length:Int) - L.fresh≤i then L.fresh - 1 else L.fresh⟩
def Log.remove (L:Log) (M:ay) (n:Int):(Log×ay)×Int:=
 match L.at n with
 |none=>((L,M),9)
 |some i=>if (M.remove (name n)).2=0 then ((L.without i,(M.remove (name n)).1),0) else ((L,(M.remove (name n)).1),(M.remove (name n)).2)
def Log.size (L:Log) (n:Int):Int:=match L.at n with
 |none=>0
 |some i=>(L.l.getD i (0,0)).2
def Log.bytes (L:Log) (M:ay) (n:Int):Bs×Int:=match L.at n with
 |none=>([],9)
 |some _=>M.all (name n)
structure Log.Ok (L:Log):Prop where
 limit:128≤L.limit∧L.limit≤1048576
 rise:(L.l.map (·.1)).Pairwise (· < ·)
 nums:∀ s∈L.l,0≤s.1∧s.1<1048576
 sizes:∀ s∈L.l,0≤s.2∧s.2≤33554432
 fresh:0≤L.fresh∧L.fresh≤L.l.length
 on:L.on=true→L.l≠[]
theorem Nc:∀ (l:List Int) (a:Int),l.Pairwise (· < ·)→(∀ x∈l,a≤x)→(∀ x∈l,x<1048576)→a≤1048576→(l.length:Int)≤1048576 - a
 |[],a,_,_,_,h=>by simp;omega
 |x::l,a,hp,h1,h2,h3=>by
  obtain ⟨hx,hp'⟩:=akl.1 hp
  have e1:=h1 x (.head _)
  have e2:=h2 x (.head _)
  have:=Nc l (x+1) hp' (fun y hy=>by have:=hx y hy;omega) (fun y hy=>h2 y (.tail _ hy)) oQ
  rw [aja];omega
theorem Log.Ok.len {L:Log} (h:L.Ok):L.l.length≤1048576:=by
 have:=Nc (L.l.map (·.1)) 0 h.rise (by intro x hx;obtain ⟨s,hs,rfl⟩:=acK.1 hx;exact (h.nums s hs).1) (by intro x hx;obtain ⟨s,hs,rfl⟩:=acK.1 hx;exact (h.nums s hs).2) oQ
 rw [aaJ]at this
 omega
theorem Log.Ok.shut {L:Log} (h:L.Ok) (M:ay):(L.shut M).1.1.Ok:=by
 unfold Log.shut
 split;· exact h
 split
 ·split
  ·exact ⟨h.limit,h.rise,h.nums,h.sizes,h.fresh,fun hh=>by cases hh⟩
  ·exact h
 ·exact h
theorem Di {L:Log}{s:Int×Int} (h:L.l.getLast?=some s):L.l=L.l.dropLast++[s]:=by
 have hne:L.l≠[]:=by intro e;rw [e]at h;cases h
 have h2:=List.dropLast_concat_getLast hne
 rw [List.getLast?_eq_some_getLast hne]at h
 cases h
 exact h2.symm
theorem LD {L:Log}{s:Int×Int} (h:L.l.getLast?=some s):L.l.length=L.l.dropLast.length+1:=by
 have:=aje List.length (Di h)
 rw [aal,adX]at this
 exact this
theorem Log.Ok.next {L:Log} (h:L.Ok):0≤L.next∧L.next≤1048576∧∀ s∈L.l,s.1<L.next:=by
 unfold Log.next
 cases hl:L.l.getLast? with
 |none=>
  have:=akP.1 hl
  simp [this]
 |some s=>
  have hs:=h.nums s (akj hl)
  refine ⟨by simp only;omega,by simp only;omega,?_⟩
  have e:=Di hl
  have hr:=h.rise
  rw [e,aey,List.pairwise_append]at hr
  intro t ht
  rw [e]at ht
  rcases ajk.1 ht with ht|ht
  ·have:=hr.2.2 t.1 (acK.2 ⟨t,ht,rfl⟩) s.1 (by simp)
   simp only;omega
  ·rw [aiR.1 ht];simp only;omega
theorem Log.Ok.snoc {L:Log} (h:L.Ok) (hn:L.next<1048576) (z:Nat) (hz:z≤16777216):({ L with l:=L.l++[(L.next,8+(z:Int))],on:=true,fresh:=L.fresh+1 }:Log).Ok:=by
 obtain ⟨n1,n2,n3⟩:=h.next
 have hf:=h.fresh
 refine ⟨h.limit,?_,?_,?_,⟨by simp only;omega,by simp only [aal,adX];omega⟩,fun _=>by simp⟩
 ·simp only
  rw [aey,List.pairwise_append]
  refine ⟨h.rise,by simp,?_⟩
  intro a ha b hb
  obtain ⟨s,hs,rfl⟩:=acK.1 ha
  simp only [ag8,ajP,aiR]at hb
  subst hb
  exact n3 s hs
 ·intro s hs
  rcases ajk.1 hs with hs|hs
  ·exact h.nums s hs
  ·rw [aiR.1 hs];exact ⟨n1,hn⟩
 ·intro s hs
  rcases ajk.1 hs with hs|hs
  ·exact h.sizes s hs
  ·rw [aiR.1 hs];exact ⟨by simp only;omega,by simp only;omega⟩
theorem Log.Ok.je {L:Log} (h:L.Ok) (M:ay) (b:Bs) (hb:b.length≤16777216):(L.je M b).1.1.Ok:=by
 unfold Log.je
 split;· exact h
 rename_i hn
 split;· exact h
 split;· exact h.snoc oQ _ hb
 split;· exact h
 exact h
theorem Log.Ok.begin {L:Log} (h:L.Ok) (M:ay) (b:Bs) (hb:b.length≤16777216):(L.begin M b).1.1.Ok:=by
 unfold Log.begin
 split
 ·exact (h.shut M).je _ _ hb
 ·exact h.shut M
theorem Log.Ok.grow {L:Log} (h:L.Ok) (M:ay) (b:Bs) (hf:L.fits b.length=true):(L.grow M b).1.1.Ok:=by
 unfold Log.grow
 split;· exact h
 rename_i s hl
 split
 ·have e:=Di hl
  have hr:=h.rise
  have hlen:L.l.length=L.l.dropLast.length+1:=LD hl
  unfold Log.fits at hf
  rw [ajc,adN,hl]at hf
  have hlim:=h.limit
  refine ⟨h.limit,?_,?_,?_,?_,fun _=>by simp⟩
  ·rw [e]at hr;simpa using hr
  ·intro t ht
   rcases ajk.1 ht with ht|ht
   ·exact h.nums t (by rw [e];exact List.mem_append_left _ ht)
   ·rw [aiR.1 ht]
    exact h.nums s (akj hl)
  ·intro t ht
   rcases ajk.1 ht with ht|ht
   ·exact h.sizes t (by rw [e];exact List.mem_append_left _ ht)
   ·rw [aiR.1 ht]
    have:=h.sizes s (akj hl)
    have h2:s.2+(b.length:Int)≤L.limit:=hf.2
    simp only;omega
  ·have:=h.fresh
   simp only [aal,adX]
   omega
 ·exact h
theorem encode_len (x:aj.aP) (hk:x.key.length=32):(aj.encode x).1.length≤16425:=by
 unfold aj.encode
 split;· simp
 rename_i hc
 have hd:x.data.length≤16384:=by
  unfold aj.check at hc
  repeat' split at hc
  all_goals first|omega|simp at hc
 unfold aj.body
 simp only [aal,aj.iH,adX]
 split
 ·simp;omega
 ·omega
theorem Log.Ok.append {L:Log} (h:L.Ok) (M:ay) (x:aj.aP) (hk:x.key.length=32):(L.append M x).1.1.Ok:=by
 have hl:=encode_len x hk
 unfold Log.append
 split;· exact h
 split
 ·rename_i hf;exact h.grow M _ hf
 ·exact h.begin M _ oQ
theorem Log.Ok.commit {L:Log} (h:L.Ok) (M:ay):(L.commit M).1.1.Ok:=by
 have h1:=h.append M dA rfl
 unfold Log.commit
 split;· exact h1
 split;· exact h1
 split;· exact h1
 exact ⟨h1.limit,h1.rise,h1.nums,h1.sizes,⟨alC _,by simp⟩,fun hh=>by cases hh⟩
theorem Log.Ok.without {L:Log} (h:L.Ok) (i:Nat) (hi:i<L.l.length):(L.without i).Ok:=by
 have hsub:(L.l.eraseIdx i).Sublist L.l:=List.eraseIdx_sublist _ _
 have hlen:(L.l.eraseIdx i).length=L.l.length - 1:=List.length_eraseIdx_of_lt hi
 have hf:=h.fresh
 refine ⟨h.limit,h.rise.sublist (hsub.map _),fun s hs=>h.nums s (hsub.mem hs),fun s hs=>h.sizes s (hsub.mem hs),?_,?_⟩
 ·unfold Log.without
  simp only [hlen]
  split <;> omega
 ·unfold Log.without
  simp only
  split
  ·intro hh;cases hh
  ·intro _ e
   have:=aje List.length e
   rw [hlen]at this
   simp at this
   omega
theorem Log.Ey {L:Log}{n:Int}{i:Nat} (h:L.at n=some i):i<L.l.length∧∃ s,L.l[i]?=some s∧s.1=n:=by
 unfold Log.at at h
 rw [List.findIdx?_eq_some_iff_getElem]at h
 obtain ⟨h1,h2,_⟩:=h
 exact ⟨h1,_,aak h1,by simpa using h2⟩
theorem Log.Ok.remove {L:Log} (h:L.Ok) (M:ay) (n:Int):(L.remove M n).1.1.Ok:=by
 unfold Log.remove
 split;· exact h
 rename_i i hi
 split
 ·exact h.without i (Log.Ey hi).1
 ·exact h
theorem Log.Ok.Qc {L:Log} (h:L.Ok){s:Int×Int} (hl:L.l.getLast?=some s):L.at s.1=some (L.l.length - 1):=by
 have e:=Di hl
 have hlen:L.l.length=L.l.dropLast.length+1:=LD hl
 have hr:=h.rise
 rw [e,aey,List.pairwise_append]at hr
 unfold Log.at
 rw [List.findIdx?_eq_some_iff_getElem]
 refine ⟨by omega,?_,?_⟩
 ·have:L.l[L.l.length - 1]?=some s:=by rw [← ajS];exact hl
  obtain ⟨h1,h2⟩:=abl.1 this
  rw [h2];simp
 ·intro j hj
  have hj':j<L.l.dropLast.length:=by omega
  have hx:L.l[j]'oQ=L.l.dropLast[j]:=by rw [List.getElem_dropLast]
  have h3:(L.l.dropLast[j]).1<s.1:=hr.2.2 (L.l.dropLast[j]).1 (acK.2 ⟨_,alo hj',rfl⟩) s.1 (by simp)
  rw [hx]
  rw [Bool.not_eq_true,adW]
  omega
def Log.back:Nat→Log→ay→(Log×ay)×Int
 |0,L,M=>(({ L with on:=false },M),0)
 |k+1,L,M=>
  match L.l.getLast? with
  |none=>(({ L with on:=false },M),0)
  |some s=>if (L.remove M s.1).2=0 then Log.back k (L.remove M s.1).1.1 (L.remove M s.1).1.2 else L.remove M s.1
def Log.rollback (L:Log) (M:ay):(Log×ay)×Int:=L.back L.fresh.toNat M
theorem Log.Ok.ahr {L:Log} (h:L.Ok):({ L with on:=false }:Log).Ok:=⟨h.limit,h.rise,h.nums,h.sizes,h.fresh,fun hh=>by cases hh⟩
end Go.Seg
