import Derived.Test.YtadhomdmbcldkaaGreatDoorJ2
set_option linter.unusedSimpArgs false
variable {B C:Prop}
open Go.Proofs.Tryz
set_option maxRecDepth 20000
set_option linter.unusedVariables false
set_option maxHeartbeats 128000000
open Go Go.Sl Go.MapKept Go.RowKit
open Go.Proofs.YtadhomdmbcldkaaGreatDoor Go.Proofs.Y
variable {w w0:World}{v lv dv bv vx vy TB fv nv wv:Value}{R F L L':List aO}{ops:Array Oper}{a:Act}{Q:Exit->Act->World->Prop}{P:Program}{dst:Option Tmp}{after:Array Edge}{x y s z:Operand}{b n fl sz K je c dn dc d:Nat}{rest:List Oper}{ty T tz e:TypeId}{cs:Array Value}{G:World->Prop}{ad:Addr}{bo:BinOp}{late:List Nat}{oi:Oper}{l:Array Bool}{uo:UnOp}{xs ys:List Value}{E:Prop}{da:Option Addr}
theorem yC0(h:B:=by first|assumption|exact iw _ _ rfl|exact iw _ _ aQ|exact iw _ _ (avP aQ)):B:=h
theorem yE0(h:B:=by rw [abA];omega):B:=h
theorem yH0(h:B:=by first|rfl|assumption|exact avP aQ):B:=h
theorem yK0(h:B:=by rw [abJ];omega):B:=h
theorem yP0(h:B:=by rw [abJ,abA];have:=Hl.o;omega):B:=h
theorem zM0(h:B:=by cases d <;> simp_all [TypeDesc.isRow]):B:=h
namespace Go.Sl
open Go
section
variable {w0 w:World}{A:aO}{L M R:List aO}
theorem dh (p:mW A L R:=by first|((repeat (first|apply bJ|apply bW));done)|((repeat (first|apply bW));done)|fail):mW A L R:=p
theorem oG (p:xu L M:=by repeat (first|(apply W9)|((apply Iy);(· first|((repeat (first|apply bJ|apply bW));done)|((repeat (first|apply bW));done)|fail))|(apply WZ))):xu L M:=p
theorem au.pk (h:au w0 w L) (p:mW A L R:=by first|((repeat (first|apply bJ|apply bW));done)|((repeat (first|apply bW));done)|fail):au w0 w (A::R):=h.pick p
theorem au.sb (h:au w0 w L) (p:xu L M:=by repeat (first|(apply W9)|((apply Iy);(· first|((repeat (first|apply bJ|apply bW));done)|((repeat (first|apply bW));done)|fail))|(apply WZ))):au w0 w M:=h.sub p
theorem Ro.op {p:World->Prop} (h:Ro w0 (A::R) p) (k:mW A L R:=by first|((repeat (first|apply bJ|apply bW));done)|((repeat (first|apply bW));done)|fail):Ro w0 L p:=h.sS k
theorem Ro.os {p:World->Prop} (h:Ro w0 M p) (k:xu L M:=by repeat (first|(apply W9)|((apply Iy);(· first|((repeat (first|apply bJ|apply bW));done)|((repeat (first|apply bW));done)|fail))|(apply WZ))):Ro w0 L p:=h.H9 k
end
theorem fJ {A B:aO}{L M:List aO} (p:vY A B L M:=by first|((repeat (first|apply eu|apply pJ));done)|((repeat (first|apply pJ));done)|fail):vY A B L M:=p
theorem aF {α:Sort _}{a b:α} (h:a=b:=by conv=>lhs;whnf):a=b:=h
theorem dX {α:Type}{P:Program}{s:Sem α}{v:α} (h:∀ w,s.run P w=.ok v w:=by ((intro wq;go_simp);first|done|(with_reducible rfl))):∀ w,s.run P w=.ok v w:=h
end Go.Sl
namespace Go.Proofs.Y
open Go.aG
section
variable {t:TypeId}{pos:String}{o:Nat}
def Fa (P:Program) (ty:TypeId):Bool:=match P.underlying ty with
 |some d => !d.isRow
 |none=>false
theorem adv(h:B:=by
 unfold Fa at h1;cases hu:P.underlying ty with
 |none=>rw [hu]at h1;cases h1
 |some d=>
  rw [hu]at h1;have hagg:(isAgg ty).run P w=.ok false w:=by
   unfold isAgg;rw [aii,akB hu w];cases d <;> simp_all [TypeDesc.isRow]
  simp [loadVar,aii,hagg];rw [hc]):B:=h
theorem asE (h1:Fa P ty=true) (hc:w.cell? ⟨b,o,none⟩=some v):(loadVar ty ⟨b,o,none⟩).run P w=.ok v w:=adv
theorem ag6 {ad:Addr} (h1:Fa P ty=true) (hc:w.cell? ad=some v):(loadVar ty ad).run P w=.ok v w:=adv
theorem aaT (a:Act) (after:Array Edge) (g:Option (Nat×Bool)):execOp a.eval ⟨dst,.call { callee:= .builtin .len,args:=#[x],argTypes:=#[ty] },t,pos,after,g⟩=(do pure (.value (<-Builtin.len_ #[ty] t #[a.eval x]))):=by
 rw [BigFrame.execOp_builtin,BigFrame.builtin_len];simp
theorem abt {i:Nat} (hlt:i+1<=cs.size) (hv:cs.getD i undef=v):cs[i]?=some v:=by
 rw [<-hv,alF,ao1 (show i<cs.size by omega)];rfl
theorem jC (hs:au w0 w L) (hx:a.eval x=.pointer (some ⟨b,o,none⟩)) (p:mW (pt b (.cells cs T (0,0))) L R) (hlt:o+1<=cs.size) (hv:cs.getD o undef=v) (h1:Fa P ty=true)
  (h:wpList P ops Q rest (a.put dst v) w):wpList P ops Q (⟨dst,.load ty x,t,pos,after,none⟩::rest) a w:=
 ajs rfl λ_ hK=>by
  exact afi
theorem IU (c:List Value) (e:au w0 w L) (f:a.eval x=.pointer (some ⟨b,o,none⟩)) (p:mW (pt b (.cells cs T (0,0))) L R) (g:∀ j v,c[j]?=some v->cs[o+j]?=some v)
  {d:TypeDesc} (i:P.underlying ty=some d) (hd:d.isRow=true) (hi:(P.info? ty).map (·.size)=some c.length)
  (h:wpList P ops Q rest (a.put dst (.agg c.toArray)) w):wpList P ops Q (⟨dst,.load ty x,t,pos,after,none⟩::rest) a w:=
 wpList_load_mid rfl ty x rfl b o f c d (λj v k=>e.bI p (o+j) (g j v k)) i hd hi h
theorem kG (hs:au w0 w L) (hx:a.eval x=.pointer (some ⟨b,0,none⟩)) (p:mW (pt b (.cells cs T (0,0))) L R){d:TypeDesc} (hu:P.underlying ty=some d) (hd:d.isRow=true) (hi:(P.info? ty).map (·.size)=some cs.size)
  (h:wpList P ops Q rest (a.put dst (.agg cs)) w):wpList P ops Q (⟨dst,.load ty x,t,pos,after,none⟩::rest) a w:=by
 refine wpList_load_row rfl ty x rfl b hx T cs (0,0) d (hs.pick p).at hu ?_ hi h;cases d <;> simp_all [TypeDesc.isRow]
theorem jI (e:au w0 w L) (f:a.eval x=.pointer (some ⟨b,o,none⟩)) (hy:a.eval y=v){cs':Array Value} (d:iK cs o v.cells.toList=cs') (u:vY (pt b (.cells cs T (0,0))) (pt b (.cells cs' T (0,0))) L L') (c:o+v.cells.size<=cs.size)
  (hi:(P.info? ty).map (·.size)=some v.cells.size) (g:v.cells.toList.all (·.oneCell')=true)
  (h:∀ w',au w0 w' L'->wpList P ops Q rest (a.put dst undef) w'):wpList P ops Q (⟨dst,.store ty x y,t,pos,after,none⟩::rest) a w:=by
 subst d;obtain ⟨l,i,j⟩:=u;exact KX rfl ty x y rfl o v f hy c hi (by rw [<-Array.all_toList];exact g) (e.perm i) λw' k=>h w' (k.perm j.symm)
theorem jB (hs:au w0 w L) (hy:a.eval y=v) (hcs:v.cells=cs)
  (hK:∀ b w',au w0 w' (pt b (.cells cs ty (0,0))::L)->wpList P ops Q rest (a.put dst (.pointer (some ⟨b,0,none⟩))) w'):wpList P ops Q (⟨dst,.box ty y,t,pos,after,none⟩::rest) a w:=by
 subst hcs;refine ajs rfl λ_ hK'=>?_;refine ae1 ?_;intro hS hrun;exact hK' _ _ (hK _ _ hS)
def nR (P:Program) (ty:TypeId):Option Value:=(P.info? ty).bind (·.zero)
theorem Wx (a:nR P ty=some v) (w:World):(zeroValue ty).run P w=.ok v w:=by
 unfold nR at a;cases hq:P.info? ty with
 |none=>simp [hq]at a
 |some i=>
  rw [hq]at a;have b:i.zero=some v:=a;simp [zeroValue,typeInfo,hq,b]
theorem iR (hz:nR P ty=some v) (hs:au w0 w L) (hcs:v.cells=cs)
  (hK:∀ b w',au w0 w' (pt b (.cells cs ty (0,0))::L)->wpList P ops Q rest (a.put dst (.pointer (some ⟨b,0,none⟩))) w'):wpList P ops Q (⟨dst,.alloc ty,t,pos,after,none⟩::rest) a w:=by
 subst hcs;refine ajs rfl λ_ hK'=>?_;refine aeT ?_;intro hS hrun;exact hK' _ _ (hK _ _ hS)
theorem uT {a:Func}{p u:Tmp}{tmps:Array Value}{d:TypeDesc} (hf:a.results=#[.cell p ty,.tmp u]) (c:au w0 w L) (e:tmps.getD p undef=.pointer (some ⟨b,0,none⟩)) (k:mW (pt b (.cells cs T (0,0))) L R)
  (f:P.underlying ty=some d) (hd:d.isRow=true) (hi:(P.info? ty).map (·.size)=some cs.size) :
  (results a tmps).run P w=.ok (.tuple #[.agg cs,tmps.getD u undef]) w:=by
 rw [results_cell_tmp hf tmps P w,e];have g:=run_loadVar_row w b T ty cs (0,0) d (c.pick k).at f zM0 hi;simp [asAddr,g,Result.andThen]
theorem bC.oO {p m:Nat}{L:aB.aS}{lv:Value}{F:List aO} (h:au w0 w (tq p m L lv::aK 148 2 lv (jg L.l)::F)):au w0 w (bC p m L::F):=bC.fA h
theorem bC.xJ {p m:Nat}{L:aB.aS}{F:List aO} (h:au w0 w (bC p m L::F)):∃ lv,au w0 w (tq p m L lv::aK 148 2 lv (jg L.l)::F):=bC.open h
theorem qY:∀ (ys:List Value) (cs:Array Value) (o:Nat),o+ys.length<=cs.size->(iK cs o ys).toList=cs.toList.take o++ys++cs.toList.drop (o+ys.length)
 |[],cs,o,h=>by simp [iK]
 |y::ys,cs,o,h=>by
  simp only [aiT]at h;rw [iK,qY ys _ (o+1) (by rw [Array.size_setIfInBounds];omega),avS];have a:o<cs.toList.length:=by simp;omega
  rw [List.set_eq_take_append_cons_drop,abL a];have b:(cs.toList.take o).length=o:=by rw [abA];omega
  rw [List.take_append,b,acE oQ,show o+1-o=1 by omega,List.take_succ_cons,ajN,List.drop_append,b,aiU oQ,ajc,show o+1+ys.length-o=ys.length+1 by omega,List.drop_succ_cons,apl];simp only [aiT,ab6,ajK,ajc];rw [show o+1+ys.length=o+(ys.length+1) by omega]
theorem dH (h:lQ (wpList P ops Q (⟨dst,.load ty x,t,pos,after,none⟩::rest) a w)):wpList P ops Q (⟨dst,.load ty x,t,pos,after,none⟩::rest) a w:=h.o
theorem eG (h:lQ (wpList P ops Q (⟨dst,.store ty x y,t,pos,after,none⟩::rest) a w)):wpList P ops Q (⟨dst,.store ty x y,t,pos,after,none⟩::rest) a w:=h.o
theorem jy (h:lQ (wpList P ops Q (⟨dst,.box ty y,t,pos,after,none⟩::rest) a w)):wpList P ops Q (⟨dst,.box ty y,t,pos,after,none⟩::rest) a w:=h.o
theorem jd (h:lQ (wpList P ops Q (⟨dst,.alloc ty,t,pos,after,none⟩::rest) a w)):wpList P ops Q (⟨dst,.alloc ty,t,pos,after,none⟩::rest) a w:=h.o
theorem rV {ix:Nat}{k:Nat} (h:lQ (wpList P ops Q (⟨dst,.buildSlice ty k #[(ix,x)],t,pos,after,none⟩::rest) a w)):wpList P ops Q (⟨dst,.buildSlice ty k #[(ix,x)],t,pos,after,none⟩::rest) a w:=h.o
theorem oK {s z:Operand}{ta tb:TypeId} (h:lQ (wpList P ops Q (⟨dst,.call { callee:= .builtin .append,args:=#[s,z],argTypes:=#[ta,tb] },t,pos,after,none⟩::rest) a w)):wpList P ops Q (⟨dst,.call { callee:= .builtin .append,args:=#[s,z],argTypes:=#[ta,tb] },t,pos,after,none⟩::rest) a w:=h.o
section
theorem rH (o:Oper) (h:o.guard=none):Region.wanted o (yielded ops a.tmps)=true:=by simp [Region.wanted,h]
theorem avq (hx:a.eval x=v):Yields P ops ⟨dst,.move x,t,pos,after,none⟩ v a:=
 .inl ⟨rH _ rfl,λw=>by simp only [execOp,hx];rfl⟩
theorem avn (hx:a.eval x=v):Yields P ops ⟨dst,.assign x,t,pos,after,none⟩ v a:=
 .inl ⟨rH _ rfl,λw=>by simp only [execOp,hx];rfl⟩
theorem avr (hx:a.eval x=.pointer (some ad)):Yields P ops ⟨dst,.nilCheck x,t,pos,after,none⟩ (.pointer (some ad)) a:=
 .inl ⟨rH _ rfl,λw=>by simp only [execOp,hx];rfl⟩
theorem avo (hx:a.eval x=vx) (hr:∀ w,(Instr.fieldAt ty vx fl).run P w=.ok v w):Yields P ops ⟨dst,.fieldAddr ty x fl,t,pos,after,none⟩ v a:=
 .inl ⟨rH _ rfl,λw=>by simp only [execOp,hx,aii,hr,acz,aiV]⟩
theorem avp (hx:a.eval x=vx) (hy:a.eval y=vy) (hr:∀ w,(Instr.indexAt ty vx vy).run P w=.ok v w):Yields P ops ⟨dst,.indexAddr ty x y,t,pos,after,none⟩ v a:=
 .inl ⟨rH _ rfl,λw=>by simp only [execOp,hx,hy,aii,hr,acz,aiV]⟩
theorem DZ (hx:a.eval x=vx) (hy:a.eval y=vy) (hr:∀ w,((do eqGuard bo ty x y vx vy;binOp bo ty vx vy):Sem Value).run P w=.ok v w):Yields P ops ⟨dst,.binOp bo ty x y tz,t,pos,after,none⟩ v a:=
 .inl ⟨rH _ rfl,λw=>by simp only [execOp,hx,hy,aii,hr,acz,aiV]⟩
theorem Qv (hx:a.eval x=vx) (hr:∀ w,(Op.unary uo vx).run P w=.ok v w):Yields P ops ⟨dst,.unOp uo ty x,t,pos,after,none⟩ v a:=
 .inl ⟨rH _ rfl,λw=>by simp only [execOp,hx,aii,hr,acz,aiV]⟩
theorem Ya (hx:a.eval x=vx) (hr:∀ w,(convert ty tz vx).run P w=.ok v w):Yields P ops ⟨dst,.convert ty tz x,t,pos,after,none⟩ v a:=
 .inl ⟨rH _ rfl,λw=>by simp only [execOp,hx,aii,hr,acz,aiV]⟩
theorem lX (hx:a.eval x=vx) (hr:∀ w,(Instr.extract vx fl).run P w=.ok v w):Yields P ops ⟨dst,.extract x fl,t,pos,after,none⟩ v a:=
 .inl ⟨rH _ rfl,λw=>by simp only [execOp,hx,aii,hr,acz,aiV]⟩
theorem vX (hx:a.eval x=vx) (hr:∀ w,(Builtin.len_ #[ty] t #[vx]).run P w=.ok v w):Yields P ops ⟨dst,.call { callee:= .builtin .len,args:=#[x],argTypes:=#[ty] },t,pos,after,none⟩ v a:=
 .inl ⟨rH _ rfl,λw=>by
  rw [aaT,hx];simp only [aii,hr,acz,aiV]⟩
theorem aus (b:a.eval x=.pointer (some ad)) (c:Fa P ty=true) (d:∀ w,G w->w.cell? ad=some v):YieldsIf P ops G ⟨dst,.load ty x,t,pos,after,none⟩ v a:=
 .inl ⟨rH _ rfl,λw e=>by
  have f:=d w e;simp only [execOp,b,Instr.loadAt,Instr.sureAddr,aii,aiV,acz,ag6 c f]⟩
def Di (P:Program) (f:FuncId):Bool:=match P.funcs[f]? with
 |some fn => !(fn.name == "runtime.NumGoroutine") && fn.body.isSome
 |none=>false
theorem asD {f:FuncId} (h:Di P f=true) (args:Array Value) (w:World):(callFunc f args).run P w=.ok (.enter f args) w:=by
 unfold Di at h;cases hf:P.funcs[f]? with
 |none=>rw [hf]at h;cases h
 |some b=>
  rw [hf]at h;simp only [ajg,Bool.not_eq_true']at h;have⟨d,e⟩:=h;have⟨c,g⟩:=Option.isSome_iff_exists.1 e;have a:b.name ≠ "runtime.NumGoroutine" := by simpa using d
  simp [callFunc,hf,a,g]
def Gi (K:Act->World->Prop) (Q:Exit->Act->World->Prop) (a:Act) (dst:Option Tmp) (e:Ending) (w:World):Prop:=
 match e with
 |.returned v=>K (a.put dst v) w
 |.panicked chain=>Q (.panic chain) a w
 |.outgrown=>LetsOut Q
theorem Gu {f:FuncId}{xs:Array Operand}{ts:Array TypeId}{K:Act->World->Prop}{E:Prop} (vs:List Value) (hf:Di P f=true) (hv:xs.toList.map a.eval=vs)
  (h:Calls P f vs.toArray w (Gi K Q a dst)):if Region.wanted ⟨dst,.call { callee:= .value (.func f),args:=xs,argTypes:=ts },t,pos,after,none⟩ (yielded ops a.tmps)=true then
   Oper.wp P ⟨dst,.call { callee:= .value (.func f),args:=xs,argTypes:=ts },t,pos,after,none⟩ a w K Q else E:=by
 rw [abL (rH _ rfl)];unfold Oper.wp;have e1:(#[]++xs.map a.eval++#[]:Array Value)=vs.toArray:=by
  rw [<-hv];cases xs;simp
 rw [execOp_call_go,e1,asD hf,Oper.upon_enter];exact h.mono λe w' he=>by cases e <;> exact he
theorem yw {f:FuncId}{x1:Operand}{v1:Value}{ts:Array TypeId}{K:Act->World->Prop}{E:Prop} (hf:Di P f=true) (h1:a.eval x1=v1)
  (h:Calls P f #[v1] w (Gi K Q a dst)):if Region.wanted ⟨dst,.call { callee:= .value (.func f),args:=#[x1],argTypes:=ts },t,pos,after,none⟩ (yielded ops a.tmps)=true then
   Oper.wp P ⟨dst,.call { callee:= .value (.func f),args:=#[x1],argTypes:=ts },t,pos,after,none⟩ a w K Q else E:=
 Gu [v1] hf (by simp [h1]) h
theorem kM {f:FuncId}{b c:Operand}{d e:Value}{ts:Array TypeId}{K:Act->World->Prop}{E:Prop} (hf:Di P f=true) (g:a.eval b=d) (i:a.eval c=e)
  (h:Calls P f #[d,e] w (Gi K Q a dst)):if Region.wanted ⟨dst,.call { callee:= .value (.func f),args:=#[b,c],argTypes:=ts },t,pos,after,none⟩ (yielded ops a.tmps)=true then
   Oper.wp P ⟨dst,.call { callee:= .value (.func f),args:=#[b,c],argTypes:=ts },t,pos,after,none⟩ a w K Q else E:=
 Gu [d,e] hf (by simp [g,i]) h
theorem Bq {f:FuncId}{b c d:Operand}{e g i:Value}{ts:Array TypeId}{K:Act->World->Prop}{E:Prop} (hf:Di P f=true) (j:a.eval b=e) (k:a.eval c=g) (l:a.eval d=i)
  (h:Calls P f #[e,g,i] w (Gi K Q a dst)):if Region.wanted ⟨dst,.call { callee:= .value (.func f),args:=#[b,c,d],argTypes:=ts },t,pos,after,none⟩ (yielded ops a.tmps)=true then
   Oper.wp P ⟨dst,.call { callee:= .value (.func f),args:=#[b,c,d],argTypes:=ts },t,pos,after,none⟩ a w K Q else E:=
 Gu [e,g,i] hf (by simp [j,k,l]) h
theorem SH {f:FuncId}{b c d e:Operand}{g i j k:Value}{ts:Array TypeId}{K:Act->World->Prop}{E:Prop} (hf:Di P f=true) (l:a.eval b=g) (m:a.eval c=i) (n:a.eval d=j) (o:a.eval e=k)
  (h:Calls P f #[g,i,j,k] w (Gi K Q a dst)):if Region.wanted ⟨dst,.call { callee:= .value (.func f),args:=#[b,c,d,e],argTypes:=ts },t,pos,after,none⟩ (yielded ops a.tmps)=true then
   Oper.wp P ⟨dst,.call { callee:= .value (.func f),args:=#[b,c,d,e],argTypes:=ts },t,pos,after,none⟩ a w K Q else E:=
 Gu [g,i,j,k] hf (by simp [l,m,n,o]) h
variable {i:Nat}
theorem VT (i:Nat) (hi:ops.toList[i]?=some oi) (hc:(Region.noSelect ops && Region.free .any ops l i && (Region.ready .any ops l).contains i && BR ops l)=true)
  (hQ:∀ c a w,Q (.panic c) (a.put oi.dst v) w->Q (.panic c) a w) (hy:Yields P ops oi v a) {a':Act} (ha:a.put oi.dst v=a')
  (h:nZ P ops Q late G n (l.setIfInBounds i true) a' w):nZ P ops Q late G (n+1) l a w:=
 jh (by rw [<-anO];exact hi) hc hQ hy (by rw [ha];exact h)
theorem ji (i:Nat) (hi:ops.toList[i]?=some oi) (hc:(Region.noSelect ops && Region.free .any ops l i && (Region.ready .any ops l).contains i && Uk ops late i && BR ops l)=true)
  (hQ:∀ c a w,Q (.panic c) (a.put oi.dst v) w->Q (.panic c) a w) (hy:YieldsIf P ops G oi v a) (hG:G w) {a':Act} (ha:a.put oi.dst v=a')
  (h:nZ P ops Q late G n (l.setIfInBounds i true) a' w):nZ P ops Q late G (n+1) l a w:=
 uY (by rw [<-anO];exact hi) hc hQ hy hG (by rw [ha];exact h)
theorem dZ (i:Nat) (hi:ops.toList[i]?=some oi) (hr:Region.ready .any ops l=[i])
  (h:∀ K:Act->World->Prop,(∀ a' w',fD late G i w w'->nZ P ops Q late G n (l.setIfInBounds i true) a' w'->K a' w') ->
   if Region.wanted oi (yielded ops a.tmps)=true then Oper.wp P oi a w K Q else K (a.put oi.dst undef) w):nZ P ops Q late G (n+1) l a w:=
 wY (by rw [<-anO];exact hi) hr h
end
def vZ (P:Program) (t e:TypeId) (sz je:Nat):Bool:=
 (match P.underlying t with|some (.slice e')=>e'==e|_=>false) &&
 (match P.info? e with
  |some i=>i.size==sz && i.bytes==je && (match i.zero with|some z=>z.cells.size==sz|none=>false) && decide (0<sz)
  |none=>false)
theorem CQ (h:vZ P t e sz je=true):P.underlying t=some (.slice e)/\∃ i z,P.info? e=some i/\i.zero=some z/\i.size=sz/\i.bytes=je/\z.cells.size=sz/\0<sz:=by
 unfold vZ at h;rw [ajg]at h;have⟨b,a⟩:=h;constructor
 ·split at b
  ·rename_i m d;rw [d];congr 2;simpa using b
  ·cases b
 ·split at a
  ·rename_i i hi;simp only [ajg,alj,ad2]at a;have⟨⟨⟨f,g⟩,c⟩,j⟩:=a;split at c
   ·rename_i z l;exact ⟨i,z,hi,l,f,g,by simpa using c,j⟩
   ·cases c
  ·cases a
theorem amn (cs m:Array Value) (h:m.size=cs.size):cs.zipIdx.foldl (λi (x:Value×Nat)=>i.setIfInBounds (0+x.2) x.1) m=cs:=by
 have key:∀ (k:Nat) (l:List Value) i,i.size=k+l.length->(∀ j,j<k->i[j]?=cs[j]?)->(∀ j,l[j]?=cs[k+j]?)->k+l.length=cs.size ->
   (l.zipIdx k).foldl (λi (x:Value×Nat)=>i.setIfInBounds (0+x.2) x.1) i=cs:=by
  intro k l
  induction l generalizing k with
  |nil=>
   intro i b c _ d;simp only [List.zipIdx_nil,List.foldl_nil];simp only [ajw,aoe]at b d;apply Array.ext_getElem?;intro j;by_cases a:j<k
   ·exact c j a
   ·rw [avQ oQ,avQ oQ]
  |cons v l g=>
   intro i b c f d;simp only [List.zipIdx_cons,awu];simp only [aiT]at b d;rw [aiO k];refine g (k+1) (i.setIfInBounds k v) (by rw [Array.size_setIfInBounds];omega) ?_ ?_ oQ
   ·intro j a;by_cases e:j=k
    ·subst e;have:=f 0;simp only [List.getElem?_cons_zero,aoe]at this;rw [<-this,Array.getElem?_setIfInBounds_self_of_lt oQ]
    ·rw [avY oQ];exact c j oQ
   ·intro j;have:=f (j+1);rw [asQ]at this;rw [this]
    congr 1
    omega
 have:=key 0 cs.toList m yJ0 (λj a=>absurd a (Nat.not_lt_zero j)) (λj=>by simp) yD0
 conv=>rhs;rw [<-this]
 rw [<-Array.foldl_toList,Array.toList_zipIdx]
theorem agY (n:vZ P t e sz je=true) (m:v.cells.size=sz) (o:sz<=16777216) (w:World) :
  (Instr.buildSlice t 1 #[(0,v)]).run P w=.ok (.slice (some ⟨w.heap.size,0,none⟩) 1 1) (w.alloc (.cells v.cells e)):=by
 obtain ⟨hu,i,z,hi,b,c,g,j,l⟩:=CQ n;subst c;have hzv:(zeroValue e).run P w=.ok z w:=by simp [zeroValue,typeInfo,hi,b]
 have hsz':(sizeOf e).run P w=.ok i.size w:=by simp [sizeOf,typeInfo,hi]
 have hnz:¬ (1*i.size=0):=oQ;have hle':¬ (1*i.size>2^24):=oQ;unfold Instr.buildSlice;simp only [aii,akB hu,acz,hsz',abB hle',abB hnz,hzv,aiV];have hf:Instr.fill (λd=>some (d*i.size,i.size)) ((Array.range (1*i.size)).map (z.cells[· % z.cells.size]!)) [(0,v)]=some v.cells:=by
  have a:((Array.range (1*i.size)).map (z.cells[· % z.cells.size]!)).size=v.cells.size:=by simp [m]
  unfold Instr.fill;simp only [Nat.zero_mul];have f:¬ ((v.cells.size≠i.size || 0+v.cells.size>((Array.range (1*i.size)).map (z.cells[· % z.cells.size]!)).size)=true):=by
   rw [a];simp [m]
  simp only [abB f];unfold Instr.fill
  congr 1
  exact amn _ _ a
 simp only [hf];simp [newRow,go_sem]
theorem rJ (hb:vZ P ty e sz je=true) (hs:au w0 w L) (hy:a.eval x=v) (hcs:v.cells=cs) (hsz:cs.size=sz) (hle:sz<=16777216)
  (hK:∀ b w',au w0 w' (pt b (.cells cs e (0,0))::L)->wpList P ops Q rest (a.put dst (.slice (some ⟨b,0,none⟩) 1 1)) w'):wpList P ops Q (⟨dst,.buildSlice ty 1 #[(0,x)],t,pos,after,none⟩::rest) a w:=by
 subst hcs;refine ajs rfl λ_ hK'=>?_;have hS:=hs.alloc (.cells v.cells e);unfold Oper.wp execOp;simp only [hy,akg,aij,ajz,aii,aiV,agY hb hsz hle w,acz];exact hK' _ _ (hK _ _ hS)
theorem au0 (e:TypeId) (sz je:Nat) (B:vZ P ty e sz je=true) (hs:au w0 w L) (C:a.eval s=v) (hy:a.eval y=.slice (some ⟨b,0,none⟩) n c){A:List aO} (p:mW (aK e sz v xs) L R) (p2:mW (pt b (.cells cs T (0,0))) R A)
  (hn:cs.size=n*sz) (h0:0<n) (D:cs.toList.all (·.oneCell')=true) (o:xs.length+cs.size<=maxLen) (r:(xs.length+cs.size)*je<=140737488355328)
  (hK:∀ b' n' c' w',au w0 w' (aK e sz (.slice (some ⟨b',0,none⟩) n' c') (xs++cs.toList)::A)->wpList P ops Q rest (a.put dst (.slice (some ⟨b',0,none⟩) n' c')) w') :
  wpList P ops Q (⟨dst,.call { callee:= .builtin .append,args:=#[s,y],argTypes:=#[ty,ty] },t,pos,after,none⟩::rest) a w:=by
 obtain ⟨d,i,z,hi,f,g,l,m,e4⟩:=CQ B;subst l;refine aeI ?_;intro hne hrd;refine AA rfl s y ty rfl e i z d hi f g m e4 C hy (λu d=>(ajC.1 D) u d) (hs.pick p) hrd (by simpa using o) (by simpa using r) ?_;exact afQ
theorem sJ (e:TypeId) (sz je:Nat) (m:vZ P ty e sz je=true) (o:au w0 w L) (r:a.eval s=v) (hy:a.eval y=.slice (some ⟨b,0,none⟩) n c){g:List aO} (p:mW (aK e sz v xs) L R) (p2:mW (pt b (.cells cs T (0,0))) R g)
  (hn:cs.size=n*sz) (u:1<=n) (x:cs.toList.all (·.oneCell')=true) (z:xs.length<=2147483648) (A:cs.size<=65536) (d:je<=65000) (f:cs.toList=ys)
  (B:∀ i j l w',au w0 w' (aK e sz (.slice (some ⟨i,0,none⟩) j l) (xs++ys)::g)->wpList P ops Q rest (a.put dst (.slice (some ⟨i,0,none⟩) j l)) w') :
  wpList P ops Q (⟨dst,.call { callee:= .builtin .append,args:=#[s,y],argTypes:=#[ty,ty] },t,pos,after,none⟩::rest) a w:=by
 subst f;refine au0 e sz je m o r hy p p2 hn u x yT0 ?_ B
 calc (xs.length+cs.size)*je<=(2147483648+65536)*65000:=aqe oQ d
  _<=140737488355328:=aU
end
theorem rp (i:Nat) (hi:ops.toList[i]?=some oi:=by conv=>lhs;whnf) (hc:(Region.noSelect ops && Region.free .any ops l i && (Region.ready .any ops l).contains i && BR ops l)=true:=by kernel_rfl)
  (hQ:∀ c a w,Q (.panic c) (a.put oi.dst v) w->Q (.panic c) a w:=by intro _ _ _ h;exact h) (hy:Yields P ops oi v a) {a':Act} (ha:a.put oi.dst v=a':=by go_frame;first|done|rfl)
  (h:nZ P ops Q late G n (l.setIfInBounds i true) a' w):nZ P ops Q late G (n+1) l a w:=VT i hi hc hQ hy ha h
theorem rt (i:Nat) (hi:ops.toList[i]?=some oi:=by conv=>lhs;whnf) (e:(Region.noSelect ops && Region.free .any ops l i && (Region.ready .any ops l).contains i && Uk ops late i && BR ops l)=true:=by kernel_rfl)
  (f:∀ c a w,Q (.panic c) (a.put oi.dst v) w->Q (.panic c) a w:=by intro _ _ _ h;exact h) (hy:YieldsIf P ops G oi v a:=by first|exact aus (by conv=>lhs;whnf) aC (by intro g b;first|exact b|exact b.1|exact b.2|exact b.2.1|exact b.2.2|exact b.2.2.1|exact b.2.2.2|exact b.2.2.2.1|exact b.2.2.2.2)|(refine Or.inl ⟨by rfl,?_⟩;(intro g b;go_split_ands;go_simp);first|done|(with_reducible rfl))) (j:G w:=by assumption) {d:Act} (m:a.put oi.dst v=d:=by go_frame;first|done|rfl)
  (h:nZ P ops Q late G n (l.setIfInBounds i true) d w):nZ P ops Q late G (n+1) l a w:=ji i hi e f hy j m h
section
variable {t:TypeId}{pos:String}{g:Option (Nat×Bool)}
theorem bV (hx:a.eval x=v:=by conv=>lhs;whnf):Yields P ops ⟨dst,.move x,t,pos,after,none⟩ v a:=avq hx
theorem eY (hx:a.eval x=vx:=by conv=>lhs;whnf) (hr:∀ w,(Instr.fieldAt ty vx fl).run P w=.ok v w:=by ((intro wq;go_simp);first|done|(with_reducible rfl))):Yields P ops ⟨dst,.fieldAddr ty x fl,t,pos,after,none⟩ v a:=avo hx hr
theorem jF (hx:a.eval x=.pointer (some ad):=by conv=>lhs;whnf):Yields P ops ⟨dst,.nilCheck x,t,pos,after,none⟩ (.pointer (some ad)) a:=avr hx
theorem kX (hx:a.eval x=vx:=by conv=>lhs;whnf) (hy:a.eval y=vy:=by conv=>lhs;whnf) (hr:∀ w,(Instr.indexAt ty vx vy).run P w=.ok v w:=by ((intro wq;go_simp);first|done|(with_reducible rfl))):Yields P ops ⟨dst,.indexAddr ty x y,t,pos,after,none⟩ v a:=avp hx hy hr
theorem kR (hx:a.eval x=v:=by conv=>lhs;whnf):Yields P ops ⟨dst,.assign x,t,pos,after,none⟩ v a:=avn hx
theorem nT (hx:a.eval x=vx:=by conv=>lhs;whnf) (hy:a.eval y=vy:=by conv=>lhs;whnf) (hr:∀ w,((do eqGuard bo ty x y vx vy;binOp bo ty vx vy):Sem Value).run P w=.ok v w:=by ((intro wq;go_simp);first|done|(with_reducible rfl))):Yields P ops ⟨dst,.binOp bo ty x y tz,t,pos,after,none⟩ v a:=DZ hx hy hr
end
section
variable {a':Act}
theorem rP (i:Nat) (h:nZ P ops Q late G n (l.setIfInBounds i true) a' w) (hi:ops.toList[i]?=some oi:=by conv=>lhs;whnf) (hc:(Region.noSelect ops && Region.free .any ops l i && (Region.ready .any ops l).contains i && BR ops l)=true:=by kernel_rfl) (hQ:∀ c a w,Q (.panic c) (a.put oi.dst v) w->Q (.panic c) a w:=by intro _ _ _ h;exact h) (y:Yields P ops oi v a) (ha:a.put oi.dst v=a':=by go_frame;first|done|rfl):nZ P ops Q late G (n+1) l a w:=VT i hi hc hQ y ha h
end
section
variable {t:TypeId}{pos:String}{o:Nat}{K:Act->World->Prop}
theorem Ey {op:Oper} (hg:op.guard=none) (h:Oper.wp P op a w K Q):if Region.wanted op (yielded ops a.tmps)=true then Oper.wp P op a w K Q else E:=by
 rw [abL (rH _ hg)];exact h
theorem aaB (hb:vZ P ty e sz je=true) (hs:au w0 w L) (hy:a.eval x=v) (c:v.cells=cs) (hsz:cs.size=sz) (hle:sz<=16777216)
  (d:∀ b w',au w0 w' (pt b (.cells cs e (0,0))::L)->K (a.put dst (.slice (some ⟨b,0,none⟩) 1 1)) w') :
  if Region.wanted ⟨dst,.buildSlice ty 1 #[(0,x)],t,pos,after,none⟩ (yielded ops a.tmps)=true then Oper.wp P ⟨dst,.buildSlice ty 1 #[(0,x)],t,pos,after,none⟩ a w K Q else E:=by
 subst c;refine Ey rfl ?_;have hS:=hs.alloc (.cells v.cells e);unfold Oper.wp execOp;simp only [hy,akg,aij,ajz,aii,aiV,agY hb hsz hle w,acz];exact d _ _ hS
theorem aaz (e:TypeId) (sz je:Nat) (F:vZ P ty e sz je=true) (hs:au w0 w L) (G:a.eval s=v) (hy:a.eval y=.slice (some ⟨b,0,none⟩) n c){D:List aO} (p:mW (aK e sz v xs) L R) (p2:mW (pt b (.cells cs T (0,0))) R D)
  (hn:cs.size=n*sz) (h0:1<=n) (H:cs.toList.all (·.oneCell')=true) (I:xs.length<=2147483648) (J:cs.size<=65536) (B:je<=65000) (C:cs.toList=ys)
  (hK:∀ b' n' c' w',au w0 w' (aK e sz (.slice (some ⟨b',0,none⟩) n' c') (xs++ys)::D)->K (a.put dst (.slice (some ⟨b',0,none⟩) n' c')) w') :
  if Region.wanted ⟨dst,.call { callee:= .builtin .append,args:=#[s,y],argTypes:=#[ty,ty] },t,pos,after,none⟩ (yielded ops a.tmps)=true then
   Oper.wp P ⟨dst,.call { callee:= .builtin .append,args:=#[s,y],argTypes:=#[ty,ty] },t,pos,after,none⟩ a w K Q else E:=by
 refine Ey rfl ?_;subst C;obtain ⟨l,i,z,hi,m,o,r,A,e4⟩:=CQ F;subst r;refine aeI ?_;intro hne hrd;have d:cs.toList.length=cs.size:=ahN;have f:xs.length+cs.toList.length<=maxLen:=by rw [d];unfold maxLen;omega
 have g:(xs.length+cs.toList.length)*i.bytes<=140737488355328:=by
  rw [d];exact abQ (aqe (show xs.length+cs.size<=2147483648+65536 by omega) B) aU
 refine X0 s y ty rfl e i z l hi m o A e4 G hy (λu l=>(ajC.1 H) u l) (hs.pick p) hrd f g ?_;exact afQ
def yA (P:Program) (t:TypeId):Option (List (Nat×Nat)):=match P.underlying t with
 |some (.struct fields)=>fields.toList.mapM λf=>(P.info? f.type).map λi=>(f.offset,i.size)
 |_=>none
theorem asL (fields:List Field):∀ (pl:List (Nat×Nat)),(fields.mapM λf=>(P.info? f.type).map λi=>(f.offset,i.size))=some pl ->
  ((fields.mapM λf=>do pure (f.offset,<-sizeOf f.type)):Sem (List (Nat×Nat))).run P w=.ok pl w:=by
 induction fields with
 |nil=>intro pl h;cases h;rfl
 |cons f fields ih=>
  intro pl h;rw [List.mapM_cons]at h ⊢;cases hi:P.info? f.type with
  |none=>simp [hi]at h
  |some i=>
   rw [hi]at h;simp only [am8,Option.bind_eq_bind,Option.bind_some,Option.bind_eq_some_iff,Option.pure_def,Option.some.injEq]at h;obtain ⟨pl',h1,rfl⟩:=h;have hs:(sizeOf f.type).run P w=.ok i.size w:=by simp [sizeOf,typeInfo,hi]
   simp only [aii,hs,acz,aiV,ih pl' h1]
def J5 (pl:List (Nat×Nat)):Array Value->List (Nat×Value)->Array Value
 |cs,[]=>cs
 |cs,(i,v)::r=>J5 pl (iK cs (pl.getD i (0,0)).1 v.cells.toList) r
theorem Tt:∀ (vs:List Value) (k:Nat) (off:Nat) (cs:Array Value),(vs.zipIdx k).foldl (λcs (x:Value×Nat)=>cs.setIfInBounds (off+x.2) x.1) cs=iK cs (off+k) vs
 |[],_,_,_=>rfl
 |v::vs,k,off,cs=>by
  rw [List.zipIdx_cons,awu,Tt vs (k+1) off];rfl
theorem aaX (b:List (Nat×Nat)):∀ (a:List (Nat×Value)) (cs:Array Value),(∀ p∈a,∃ off,b[p.1]?=some (off,p.2.cells.size)/\off+p.2.cells.size<=cs.size) ->
  Instr.fill (b.toArray[·]?) cs a=some (J5 b cs a)
 |[],_,_=>rfl
 |(i,v)::r,cs,h=>by
  obtain ⟨off,e,l⟩:=h _ (.head _);unfold Instr.fill;have d:b.toArray[i]?=some (off,v.cells.size):=by simpa using e
  simp only [d];have f:¬ ((v.cells.size≠v.cells.size || off+v.cells.size>cs.size)=true):=by simp;omega
  rw [abB f];have hf:v.cells.zipIdx.foldl (λcs (c,j)=>cs.setIfInBounds (off+j) c) cs=iK cs off v.cells.toList:=by
   rw [<-Array.foldl_toList,Array.toList_zipIdx];exact Tt _ 0 off cs
  rw [hf,aaX b r _ (λp d=>by
   obtain ⟨o,g,k⟩:=h p (.tail _ d);exact ⟨o,g,by rw [pW];exact k⟩)]
  have hg:(b.getD i (0,0)).1=off:=by rw [abY,e];rfl
  simp only [J5,hg]
theorem uU {z:Value}{e:List (Nat×Nat)} (d:List (Nat×Value)) (h:yA P t=some e) (i:nR P t=some z)
  (g:∀ p∈d,∃ off,e[p.1]?=some (off,p.2.cells.size)/\off+p.2.cells.size<=z.cells.size) (w:World) :
  (Instr.build t d.toArray).run P w=.ok (.agg (J5 e z.cells d)) w:=by
 unfold yA at h;split at h
 ·rename_i a b;have c:((a.mapM λf=>do pure (f.offset,<-sizeOf f.type)):Sem (Array (Nat×Nat))).run P w=.ok e.toArray w:=by
   rw [Array.mapM_eq_mapM_toList,map_eq_pure_bind,aii,asL a.toList e h]
   rfl
  unfold Instr.build;simp only [aii,Wx i w,acz,akB b,c,aaX e d z.cells g,aiV]
 ·cases h
theorem IW {b c d:Nat}{e f g:Operand}{h i j:Value} (k:a.eval e=h) (l:a.eval f=i) (m:a.eval g=j) (n:∀ w,(Instr.build ty #[(b,h),(c,i),(d,j)]).run P w=.ok v w) :
  Yields P ops ⟨dst,.build ty #[(b,e),(c,f),(d,g)],t,pos,after,none⟩ v a:=
 .inl ⟨rH _ rfl,λw=>by
  simp only [execOp,akg,aij,ajz,k,l,m,aii,n,acz,aiV]⟩
theorem lF {G:World->Prop}{o:Nat} (c:List Value) (e:a.eval x=.pointer (some ⟨b,o,none⟩)){d:TypeDesc} (f:P.underlying ty=some d) (hd:d.isRow=true) (hi:(P.info? ty).map (·.size)=some c.length) (g:∀ w,G w->w.rangeAt b o c) :
  YieldsIf P ops G ⟨dst,.load ty x,t,pos,after,none⟩ (.agg c.toArray) a:=
 yieldsIf_load_mid (rH _ rfl) ty x rfl b o e c d g f hd hi
end
theorem pq {a:Option Addr}{n c:Nat}{xs:List Value} (h:bK sz (.slice a n c) xs w){i:Nat}{x:Value} (hi:xs[i]?=some x) :
  ∃ F off,a=some ⟨F,off,none⟩/\∀ j y,xs[j]?=some y->w.cell? ⟨F,off+j,none⟩=some y:=by
 obtain ⟨z,A,B,o,C,g⟩:=h;cases o;obtain ⟨b,rfl,D⟩:=g i x hi;have r:=(abM.1 hi).1;obtain ⟨y,s⟩:∃ y,xs[0]?=some y:=⟨xs[0]'oQ,aaf _⟩;obtain ⟨E,l,m⟩:=g 0 y s;cases l;obtain ⟨F,off,d⟩:=b;have t:d=none:=by simpa [Addr.add] using World.cell?_spot m
 subst t;refine ⟨F,off,rfl,λj y u=>?_⟩;obtain ⟨v,e,f⟩:=g j y u;cases e;rw [Addr.add_mid]at f;exact f
def ug (es:List (ay.aT×Value)):List Value:=es.flatMap λp=>mM p.1 p.2
theorem zn (x:ay.aT) (dv:Value) (hk:x.key.length=32):(mM x dv).length=34:=by simp [mM,aI,hk]
theorem aaR {es:List (ay.aT×Value)} (hk:∀ p∈es,p.1.key.length=32):(ug es).length=34*es.length:=by
 unfold ug
 induction es with
 |nil=>rfl
 |cons p es ih=>
  rw [aiN,aay,ih (λq hq=>hk q (.tail _ hq)),zn _ _ (hk p (.head _)),aiT];omega
theorem ame (x:ay.aT) (dv:Value){j:Nat}{y:Value} (h:(aI x.key)[j]?=some y):(mM x dv)[1+j]?=some y:=by
 unfold mM;exact afN
theorem amd (x:ay.aT) (dv:Value) (hk:x.key.length=32):(mM x dv)[33]?=some dv:=by
 unfold mM;rw [asQ,aiP zP0,bP,hk];rfl
theorem OQ:yA prog 71=some [(0,1),(1,32),(33,1)]:=aC
def Ci:Value:= .agg (dR ay.iL (.slice none 0 0))
theorem FV:nR prog 71=some Ci:=aC
theorem aqK (cs:Array Value) (hs:cs.size=34) (u dv:Value) (kl:List Value) (hk:kl.length=32):(iK (iK (iK cs 0 [u]) 1 kl) 33 [dv]).toList=u::(kl++[dv]):=by
 have hcl:cs.toList.length=34:=by simpa using hs
 rw [qY _ _ _ (by rw [pW,pW];simp;omega),qY _ _ _ (by rw [pW];omega),qY _ _ _ yO0];refine afk ?_;have h1:([u]++kl++cs.toList.drop (1+32)).length=34:=by simp [hk,hcl]
 rw [ajj (by simp [hk]),acE (by simp [hk]),aiU oQ];simp
theorem vS {cs ds:Array Value} (h:cs.toList=ds.toList):cs=ds:=Array.toList_inj.1 h
theorem ag0 (e:ay.aT) (hk:e.key.length=32) (da:Option Addr) (dn dc:Nat) (w:World) :
  (Instr.build 71 #[(0,.int .i64 e.dB),(1,.agg (aI e.key).toArray),(2,.slice da dn dc)]).run prog w=.ok (.agg (dR e (.slice da dn dc))) w:=by
 have c:(dR ay.iL (.slice none 0 0)).size=34:=iw _ _ rfl;have a:(aI e.key).toArray.size=32:=by simp [aI,hk]
 have h:=uU [(0,.int .i64 e.dB),(1,.agg (aI e.key).toArray),(2,.slice da dn dc)] OQ FV (by
  intro p d;simp only [ab9,ajW,av2]at d;have b:Ci.cells.size=34:=c;rw [b];rcases d with rfl|rfl|rfl
  ·exact ⟨0,rfl,by show 0+1<=34;omega⟩
  ·refine ⟨1,?_,?_⟩
   ·show some (1,32)=some (1,(aI e.key).toArray.size);rw [a]
   ·show 1+(aI e.key).toArray.size<=34;rw [a];omega
  ·exact ⟨33,rfl,by show 33+1<=34;omega⟩) w
 refine h.trans ?_
 congr 2
 apply vS;exact aqK _ c _ _ _ (show (aI e.key).toArray.toList.length=32 by rw [agQ,bP,hk])
theorem aeD (cs:Array Value) (vs:List Value) (h:vs.length=cs.size):iK cs 0 vs=vs.toArray:=by
 apply vS;rw [qY _ _ _ oQ,ajN,ajc,aiU yO0,ahB,agQ]
section
variable {t:TypeId}{pos:String}{e:ay.aT}
theorem amc (e:ay.aT) (a:Option Addr) (n c:Nat):(dR e (.slice a n c)).all (·.oneCell')=true:=by
 rw [<-Array.all_toList];exact afn
theorem zA:(prog.info? 71).map (·.size)=some 34:=aC
theorem jk (hs:au w0 w L) (hx:a.eval x=.pointer (some ⟨b,0,none⟩)) (hy:a.eval y=.agg (dR e (.slice da dn dc))) (hk:e.key.length=32) (u:vY (pt b (.cells cs T (0,0))) (pt b (.cells (dR e (.slice da dn dc)) T (0,0))) L L') (hcs:cs.size=34)
  (hK:∀ w',au w0 w' L'->wpList prog ops Q rest (a.put dst undef) w'):wpList prog ops Q (⟨dst,.store 71 x y,t,pos,after,none⟩::rest) a w:=by
 obtain ⟨R',h2,h3⟩:=u;have hz:=iw e (.slice da dn dc) hk;refine KX (w0:=w0) rfl 71 x y rfl 0 (.agg (dR e (.slice da dn dc))) hx hy (show 0+(dR e (.slice da dn dc)).size<=cs.size by omega) (show _=some (dR e (.slice da dn dc)).size by rw [hz];exact zA) (amc _ _ _ _) (hs.perm h2) λw' hS=>hK w' ?_;have he:iK cs 0 (Value.agg (dR e (.slice da dn dc))).cells.toList=dR e (.slice da dn dc):=by
  show iK cs 0 (dR e (.slice da dn dc)).toList=_;rw [aeD _ _ yO0]
 rw [he]at hS;exact hS.perm h3.symm
theorem xU (hs:au w0 w L) (hx:a.eval x=.pointer (some ⟨b,0,none⟩)) (p:mW (pt b (.cells (dR e (.slice da dn dc)) T (0,0))) L R) (hk:e.key.length=32)
  (h:wpList prog ops Q rest (a.put dst (.agg (dR e (.slice da dn dc)))) w):wpList prog ops Q (⟨dst,.load 71 x,t,pos,after,none⟩::rest) a w:=
 kG hs hx p underlying71 rfl (by rw [iw e _ hk];exact zA) h
theorem mY (h:lQ (wpList prog ops Q (⟨dst,.store 71 x y,t,pos,after,none⟩::rest) a w)):wpList prog ops Q (⟨dst,.store 71 x y,t,pos,after,none⟩::rest) a w:=h.o
theorem xA (h:lQ (wpList prog ops Q (⟨dst,.load 71 x,t,pos,after,none⟩::rest) a w)):wpList prog ops Q (⟨dst,.load 71 x,t,pos,after,none⟩::rest) a w:=h.o
theorem as2 (w:World):(Instr.build 71 #[]).run prog w=.ok Ci w:=uU [] OQ FV yD0 w
theorem qA (hs:au w0 w L) (hK:∀ b w',au w0 w' (pt b (.cells (dR ay.iL (.slice none 0 0)) 71 (0,0))::L)->wpList prog ops Q rest (a.put dst (.pointer (some ⟨b,0,none⟩))) w') :
  wpList prog ops Q (⟨dst,.alloc 71,t,pos,after,none⟩::rest) a w:=iR FV hs rfl hK
theorem XT (hs:au w0 w L) (hy:a.eval y=.agg (dR e (.slice da dn dc))) (hK:∀ b w',au w0 w' (pt b (.cells (dR e (.slice da dn dc)) 71 (0,0))::L)->wpList prog ops Q rest (a.put dst (.pointer (some ⟨b,0,none⟩))) w') :
  wpList prog ops Q (⟨dst,.box 71 y,t,pos,after,none⟩::rest) a w:=jB hs hy rfl hK
theorem RG (h:lQ (wpList prog ops Q (⟨dst,.box 71 y,t,pos,after,none⟩::rest) a w)):wpList prog ops Q (⟨dst,.box 71 y,t,pos,after,none⟩::rest) a w:=h.o
theorem ql (h:lQ (wpList prog ops Q (⟨dst,.alloc 71,t,pos,after,none⟩::rest) a w)):wpList prog ops Q (⟨dst,.alloc 71,t,pos,after,none⟩::rest) a w:=h.o
theorem Io {fn:Func}{p u:Tmp}{tmps:Array Value} (hf:fn.results=#[.cell p 71,.tmp u]) (hs:au w0 w L) (hp:tmps.getD p undef=.pointer (some ⟨b,0,none⟩)) (k:mW (pt b (.cells (dR e (.slice da dn dc)) T (0,0))) L R) (hk:e.key.length=32) :
  (results fn tmps).run prog w=.ok (.tuple #[.agg (dR e (.slice da dn dc)),tmps.getD u undef]) w:=
 uT hf hs hp k underlying71 rfl (by rw [iw e _ hk];exact zA)
end
section
variable {x:Value}
theorem OL (l:Bs) (c:UInt8) (k:Nat) (hl:l.length=k) (hk:k<7):bits .or .u64 ((ay.bD l:Nat):Int) ((c.toNat:Int)*((256^k:Nat):Int))=((ay.bD (l++[c]):Nat):Int):=by
 subst hl;have h1:=ay.uP l;have h2:=c.toNat_lt;have h3:256^l.length<=256^6:=aon aU oQ;have h4:c.toNat*256^l.length<=255*256^6:=aqe oQ h3;have h5:(256:Nat)^6=281474976710656:=aU;refine Vx ?_;intro e;rw [e,u64_or_nat _ _ oQ oQ,ay.UW];exact VK
theorem adC(h:B:=by
 obtain ⟨a',n',c',he,hl,hx⟩:=h;cases he;rw [bP,aiR]at hl;refine ⟨a,_,c,rfl,by rw [bP,abA];omega,λj y hj=>?_⟩;have hj':(aI l)[j]?=some y:=by
  unfold aI at hj ⊢;rw [avZ,ak7]at hj;split at hj
  ·exact hj
  ·cases hj
 exact hx j y hj'):B:=h
theorem agp {k:Nat}{l:Bs}{a:Option Addr}{n c:Nat} (h:bK 1 (.slice a n c) (aI l) w):bK 1 (.slice a (min n k) c) (aI (l.take k)) w:=adC
theorem amS (c0 c1 c2 c3:UInt8) (a:Option Addr) (c:Nat) (h:bK 1 (.slice a 4 c) (aI [c0,c1,c2,c3]) w) :
  Calls prog 227 #[.slice a 4 c] w (bf λv w'=>v=.tuple #[.int .u64 (ay.bD [c0,c1,c2,c3]:Nat),.bool true]/\w=w'):=by
 obtain ⟨bk,off,rfl,hc⟩:=pq h (i:=0) rfl;have e0:w.cell? ⟨bk,off,none⟩=some (.int .u8 c0.toNat):=hc 0 _ rfl;have e1:w.cell? ⟨bk,off+1,none⟩=some (.int .u8 c1.toNat):=hc 1 _ rfl;have e2:w.cell? ⟨bk,off+2,none⟩=some (.int .u8 c2.toNat):=hc 2 _ rfl;have e3:w.cell? ⟨bk,off+3,none⟩=some (.int .u8 c3.toNat):=hc 3 _ rfl;have b0:=c0.toNat_lt;have b1:=c1.toNat_lt;have b2:=c2.toNat_lt;have b3:=c3.toNat_lt;clear hc h;go_enter func227,ntmps227;go_wp2_with fail
 go_loopg [17,4] 4 (λg iq xq wr=>∃ i:Nat,g=4-i/\i<=4/\iq=.int .i64 i/\xq=.int .u64 (ay.bD ([c0,c1,c2,c3].take i):Nat)/\wr=w)
 case atStart=>exact ⟨0,rfl,by omega,rfl,rfl,rfl⟩
 case round=>
  obtain ⟨i,rfl,hi,rfl,rfl,rfl⟩:=hrel;by_cases h4:i<4
  ·have h0:i=0\/i=1\/i=2\/i=3:=oQ;clear hi h4;rcases h0 with rfl|rfl|rfl|rfl
   ·have hq:bits .or .u64 ((ay.bD []:Nat):Int) (c0.toNat:Int)=((ay.bD [c0]:Nat):Int):=by
     have:=OL [] c0 0 rfl aU;simpa using this
    go_wp2_with fail
    go_roundg (4-1)
    case measure=>decide
    case rel=>exact ⟨1,rfl,by decide,by first|rfl|go_num,rfl,rfl⟩
   ·have hq:bits .or .u64 ((ay.bD [c0]:Nat):Int) ((c1.toNat:Int)*256)=((ay.bD [c0,c1]:Nat):Int):=OL [c0] c1 1 rfl aU;go_wp2_with fail
    go_roundg (4-2)
    case measure=>decide
    case rel=>exact ⟨2,rfl,by decide,by first|rfl|go_num,rfl,rfl⟩
   ·have hq:bits .or .u64 ((ay.bD [c0,c1]:Nat):Int) ((c2.toNat:Int)*65536)=((ay.bD [c0,c1,c2]:Nat):Int):=OL [c0,c1] c2 2 rfl aU;go_wp2_with fail
    go_roundg (4-3)
    case measure=>decide
    case rel=>exact ⟨3,rfl,by decide,by first|rfl|go_num,rfl,rfl⟩
   ·have hq:bits .or .u64 ((ay.bD [c0,c1,c2]:Nat):Int) ((c3.toNat:Int)*16777216)=((ay.bD [c0,c1,c2,c3]:Nat):Int):=OL [c0,c1,c2] c3 3 rfl aU;go_wp2_with fail
    go_roundg (4-4)
    case measure=>decide
    case rel=>exact ⟨4,rfl,by decide,by first|rfl|go_num,rfl,rfl⟩
  ·obtain rfl:i=4:=oQ;go_wp2
   go_ret2
   exact ⟨_,rfl,rfl,rfl⟩
theorem amL {l:Bs} (h:l.length=4):∃ a b c d,l=[a,b,c,d]:=by
 match l,h with
 |[a,b,c,d],_=>exact ⟨a,b,c,d,rfl⟩
theorem abo (l:Bs) (hl:l.length=4) (a:Option Addr) (c:Nat) (h:bK 1 (.slice a 4 c) (aI l) w) :
  Calls prog 227 #[.slice a 4 c] w (bf λv w'=>v=.tuple #[.int .u64 (ay.bD l:Nat),.bool true]/\w=w'):=by
 obtain ⟨c0,c1,c2,c3,rfl⟩:=amL hl;exact amS c0 c1 c2 c3 a c h
theorem aea (l:Bs) (hl:4<=l.length) (a:Option Addr) (n c:Nat) (hn:n<=c) (hc:c<=9223372036854775807) (h:bK 1 (.slice a n c) (aI l) w) :
  Calls prog 184 #[.slice a n c] w (bf λv w'=>v=.int .u32 (ay.bD (l.take 4):Nat)/\w=w'):=by
 have d:n=l.length:=by
  obtain ⟨_,_,_,he,hl',_⟩:=h;exact VE
 have f:=agp (k:=4) h;rw [show min n 4=4 by omega]at f;have hg:=abo (l.take 4) yE0 a c f;have b:=ay.uP (l.take 4);rw [abA,avG hl]at b;have i:(ay.bD (l.take 4):Int)<4294967296:=oQ;have g:(4:Int)<=c:=oQ;generalize ay.bD (l.take 4)=N at *
 have j:IntKind.u32.wrap N=N:=by rw [IntKind.wrap_u32];omega
 go_in
 go_wp2_with (go_at_call 227;refine hg.mono ?_;rintro e m ⟨v,rfl,rfl,rfl⟩);go_ret;exact ⟨_,rfl,rfl,rfl⟩
theorem amu (t:UInt8) (n:Nat) (hn:n<4294967296) (w:World) :
  Calls prog 185 #[.int .u8 t.toNat,.int .i64 n] w (bf λv w'=>v=.bool (ay.fC t n)/\w=w'):=by
 have e:=t.toNat_lt;by_cases c:t=0
 ·subst c;by_cases a:41<=n
  ·by_cases b:n<=16425
   ·have Hf:=uQ (show ay.fC 0 n=true by unfold ay.fC;rw [abL rfl];exact aiC ⟨a,b⟩);have d:(41:Int)<=(n:Int):=oQ;have f:(n:Int)<=16425:=oQ;clear a b;exact O8
   ·have Hf:=uQ (show ay.fC 0 n=false by unfold ay.fC;rw [abL rfl];exact aes oQ);have d:(41:Int)<=(n:Int):=oQ;have f:decide ((n:Int)<=16425)=false:=aes oQ;clear a b;exact O8
  ·have Hf:=uQ (show ay.fC 0 n=false by unfold ay.fC;rw [abL rfl];exact aes oQ);have d:decide ((41:Int)<=(n:Int))=false:=aes oQ;clear a;exact O8
 by_cases a:t=1
 ·subst a;have Hf:=uQ (show ay.fC 1 n=decide (n=41) by unfold ay.fC;rw [abB aU,abL rfl]);have He:=uQ (show ((n:Int)==41)=decide (n=41) by rw [atd,alj,ad2];omega);exact afU
 by_cases b:t=2
 ·subst b;have Hf:=uQ (show ay.fC 2 n=decide (n=9) by unfold ay.fC;rw [abB aU,abB aU,abL rfl]);have He:=uQ (show ((n:Int)==9)=decide (n=9) by rw [atd,alj,ad2];omega);exact afU
 ·have Hf:=uQ (show ay.fC t n=false by unfold ay.fC;rw [abB c,abB a,abB b]);have g:((t.toNat:Int)==0)=false:=by rw [acj];intro h;exact c (ak4.1 (by rw [show (0:UInt8).toNat=0 from rfl];omega))
  have i:((t.toNat:Int)==1)=false:=by rw [acj];intro h;exact a (ak4.1 (by rw [show (1:UInt8).toNat=1 from rfl];omega))
  have j:((t.toNat:Int)==2)=false:=by rw [acj];intro h;exact b (ak4.1 (by rw [show (2:UInt8).toNat=2 from rfl];omega))
  clear c a b;generalize t.toNat=T at *
  exact O8
end
section
variable {t:TypeId}{pos:String}{e:ay.aT}
theorem asz (dB:Int) (w:World):(Instr.build 71 #[(0,.int .i64 dB)]).run prog w=.ok (.agg (dR ⟨dB,ay.gu,[]⟩ (.slice none 0 0))) w:=by
 have c:(dR ay.iL (.slice none 0 0)).size=34:=iw _ _ rfl
 have h:=uU [(0,.int .i64 dB)] OQ FV (by
  intro p b;rw [acS]at b;subst b;have a:Ci.cells.size=34:=c;rw [a];exact ⟨0,rfl,by show 0+1<=34;omega⟩) w
 exact h
theorem KU {dB:Int} (hx:a.eval x=.int .i64 dB) (h:wpList prog ops Q rest (a.put dst (.agg (dR ⟨dB,ay.gu,[]⟩ (.slice none 0 0)))) w):wpList prog ops Q (⟨dst,.build 71 #[(0,x)],t,pos,after,none⟩::rest) a w:=
 ajs rfl λ_ hK=>by
  unfold Oper.wp execOp;simp only [akg,aij,ajz,hx,aii,asz,acz,aiV];exact hK _ _ h
theorem uX (h:wpList prog ops Q rest (a.put dst (.agg (dR ay.iL (.slice none 0 0)))) w):wpList prog ops Q (⟨dst,.build 71 #[],t,pos,after,none⟩::rest) a w:=
 ajs rfl λ_ hK=>by
  unfold Oper.wp execOp;simp only [akg,ajz,aii,as2,acz,aiV];exact hK _ _ h
theorem Jc (h:lQ (wpList prog ops Q (⟨dst,.build 71 #[(0,x)],t,pos,after,none⟩::rest) a w)):wpList prog ops Q (⟨dst,.build 71 #[(0,x)],t,pos,after,none⟩::rest) a w:=h.o
theorem uG (h:lQ (wpList prog ops Q (⟨dst,.build 71 #[],t,pos,after,none⟩::rest) a w)):wpList prog ops Q (⟨dst,.build 71 #[],t,pos,after,none⟩::rest) a w:=h.o
theorem ais {P:Program}{ty:TypeId}{z:Operand}{b c d:Value} (hx:a.eval x=b) (hy:a.eval y=c) (hz:a.eval z=d) (hr:∀ w,(Instr.sliceAt ty b (some c) (some d) none).run P w=.ok v w)
  (h:wpList P ops Q rest (a.put dst v) w):wpList P ops Q (⟨dst,.slice ty x (some y) (some z) none,t,pos,after,none⟩::rest) a w:=
 ajs rfl λ_ hK=>by
  exact afz
theorem Zx {P:Program}{ty:TypeId}{z:Operand} (h:lQ (wpList P ops Q (⟨dst,.slice ty x (some y) (some z) none,t,pos,after,none⟩::rest) a w)):wpList P ops Q (⟨dst,.slice ty x (some y) (some z) none,t,pos,after,none⟩::rest) a w:=h.o
theorem asx (ad:Addr) (c:Nat) (w:World):(Instr.arrayAt 34 (.slice (some ad) 32 c)).run prog w=.ok (.pointer (some ad)) w:=by
 simp [Instr.arrayAt,akB underlying34]
theorem aqO {e:ay.aT}{dv:Value} (hk:e.key.length=32) (key:Bs) (hk2:key.length=32):iK (dR e dv) 1 (aI key)=dR ⟨e.dB,key,e.data⟩ dv:=by
 apply vS;have hz:=iw e dv hk;have h1:(aI key).length=32:=by rw [bP,hk2]
 have h2:(aI e.key).length=32:=by rw [bP,hk]
 rw [qY _ _ _ oQ];unfold dR mM;rw [agQ,agQ,h1,show 1+32=32+1 by omega,List.drop_succ_cons,List.take_succ_cons,ajN,auU oQ,aiU oQ];simp
theorem aqN {e:ay.aT}{dv:Value} (hk:e.key.length=32) (data:Bs) (dv2:Value):iK (dR e dv) 33 [dv2]=dR ⟨e.dB,e.key,data⟩ dv2:=by
 apply vS;have hz:=iw e dv hk;have h2:(aI e.key).length=32:=by rw [bP,hk]
 rw [qY _ _ _ yO0];unfold dR mM;rw [agQ,agQ,ai8,show 33+1=33+1 from rfl,List.drop_succ_cons,List.take_succ_cons,ajj oQ,acE oQ,aiU yO0];simp
theorem an3:(prog.info? 34).map (·.size)=some 32:=aC
theorem an5:(prog.info? 59).map (·.size)=some 1:=aC
theorem ava {dv:Value}{key:Bs} (hs:au w0 w L) (hx:a.eval x=.pointer (some ⟨b,1,none⟩)) (hy:a.eval y=.agg (aI key).toArray) (hk:e.key.length=32) (hk2:key.length=32) (u:vY (pt b (.cells (dR e dv) T (0,0))) (pt b (.cells (dR ⟨e.dB,key,e.data⟩ dv) T (0,0))) L L')
  (hK:∀ w',au w0 w' L'->wpList prog ops Q rest (a.put dst undef) w'):wpList prog ops Q (⟨dst,.store 34 x y,t,pos,after,none⟩::rest) a w:=by
 obtain ⟨R',h2,h3⟩:=u;have hz:=iw e dv hk;have hb:(aI key).toArray.size=32:=by simp [aI,hk2]
 refine KX (w0:=w0) rfl 34 x y rfl 1 (.agg (aI key).toArray) hx hy (show 1+(aI key).toArray.size<=(dR e dv).size by omega) (show _=some (aI key).toArray.size by rw [hb];exact an3) ?_ (hs.perm h2) λw' hS=>hK w' ?_
 ·show (aI key).toArray.all _=true;rw [<-Array.all_toList];exact ajC.2 (Bo _)
 ·have he:iK (dR e dv) 1 (Value.agg (aI key).toArray).cells.toList=dR ⟨e.dB,key,e.data⟩ dv:=aqO hk key hk2;rw [he]at hS;exact hS.perm h3.symm
theorem ait {dv:Value}{data:Bs} (k:au w0 w L) (l:a.eval x=.pointer (some ⟨b,33,none⟩)) (hy:a.eval y=.slice da dn dc) (h:e.key.length=32) (u:vY (pt b (.cells (dR e dv) T (0,0))) (pt b (.cells (dR ⟨e.dB,e.key,data⟩ (.slice da dn dc)) T (0,0))) L L')
  (m:∀ w',au w0 w' L'->wpList prog ops Q rest (a.put dst undef) w'):wpList prog ops Q (⟨dst,.store 59 x y,t,pos,after,none⟩::rest) a w:=by
 obtain ⟨i,d,f⟩:=u;have j:=iw e dv h;refine KX rfl 59 x y rfl 33 (.slice da dn dc) l hy (show 33+1<=(dR e dv).size by omega) an5 (by simp [Value.cells,Value.oneCell']) (k.perm d) λw' c=>m w' ?_;have g:iK (dR e dv) 33 (Value.slice da dn dc).cells.toList=dR ⟨e.dB,e.key,data⟩ (.slice da dn dc):=aqN h data _;rw [g]at c;exact c.perm f.symm
theorem vT {d:Func}{p u q:Tmp}{tmps:Array Value} (hf:d.results=#[.cell p 71,.tmp u,.tmp q]) (f:au w0 w L) (g:tmps.getD p undef=.pointer (some ⟨b,0,none⟩)) (k:mW (pt b (.cells (dR e (.slice da dn dc)) T (0,0))) L R) (i:e.key.length=32) :
  (results d tmps).run prog w=.ok (.tuple #[.agg (dR e (.slice da dn dc)),tmps.getD u undef,tmps.getD q undef]) w:=by
 have c:=run_loadVar_row w b T 71 (dR e (.slice da dn dc)) (0,0) _ (f.pick k).at underlying71 aA (by rw [iw e _ i];exact zA);have a:tmps[p]?.getD undef=.pointer (some ⟨b,0,none⟩):=by simpa using g
 simp [results,hf,a,asAddr,c,Result.andThen]
end
section
variable {x:Value}
theorem yC {l:Bs}{p off n c:Nat} (h:bK 1 (.slice (some ⟨p,off,none⟩) n c) (aI l) w) (i j q:Nat) (u:i<=j) (v:j<=l.length):bK 1 (.slice (some ⟨p,off+i,none⟩) (j-i) q) (aI ((l.take j).drop i)) w:=by
 have⟨o,r,f,g,s,m⟩:=h;cases g;refine ⟨_,_,_,rfl,by rw [bP,abJ,abA];omega,λk y a=>⟨_,rfl,?_⟩⟩;have b:(aI l)[i+k]?=some y:=by
  unfold aI at a ⊢;rw [List.map_drop,avZ,anv,ak7]at a;split at a
  ·exact a
  ·cases a
 have⟨t,d,e⟩:=m _ _ b;cases d;rw [Addr.add_mid]at e ⊢;rw [avC];exact e
end
section
variable {x:Value}
theorem Tv (l:Bs) (hr:Ro w0 F (bK 1 bv (aI l))) (hcap:lS bv) (hH:Ro w0 F iO) (hl:l.length<=1099511627776) (h:au w0 w F) :
  Calls prog 142 #[bv] w (bf λv w'=>∃ da dc,v=.tuple #[.agg (dR (ay.read l).1 (.slice da (ay.read l).1.data.length dc)),.int .i64 (ay.read l).2.1,dS (ay.read l).2.2]/\au w0 w' (cZ (.slice da (ay.read l).1.data.length dc) (ay.read l).1.data::F)):=by
 obtain ⟨ba,bn,bc,rfl,hbn,hbc⟩:=hcap;have hln:bn=l.length:=by
  exact Dv
 subst hln;by_cases h9:l.length<9
 ·have Hf:=uQ (show ay.read l=(ay.iL,0,3) by unfold ay.read;rw [abL h9]);have c1:(l.length:Int)<9:=oQ;clear hr hH h9 hl;go_enter func142,ntmps142;go_wp2_with (first|((with_reducible refine ql ⟨?_⟩);refine qA aQ ?_;intro bE wE hE)|((with_reducible refine uG ⟨?_⟩);refine uX ?_)|((with_reducible refine mY ⟨?_⟩);first|(refine jk aQ aA aA yH0 fJ yC0 ?_;intro wS hS)|(refine jk aQ aA aA rfl fJ yC0 ?_;intro wS hS)));rw [Hf.o];refine ⟨rfl,_,vT rfl aQ aA dh rfl,_,rfl,none,0,rfl,au.iW.2 (au.sb hS)⟩
 obtain ⟨bk,off,rfl,hcell⟩:∃ bk off,ba=some ⟨bk,off,none⟩/\True:=by
  exact Ih
 clear hcell;have hrd:=hr w h;have LX:=uQ (show ∀ (i j:Nat),i<=j->j<=l.length->∀ w,au w0 w F->bK 1 (.slice (some ⟨bk,off+i,none⟩) (j-i) (bc-i)) (aI ((l.take j).drop i)) w from λi j h1 h2 w hw=>yC (hr w hw) i j (bc-i) h1 h2)
 have F7:=uQ (show ∀ w,au w0 w F->Calls prog 184 #[.slice (some ⟨bk,off+4,none⟩) (l.length-4) (bc-4)] w (bf λv w'=>v=.int .u32 (ay.bD ((l.drop 4).take 4):Nat)/\w=w') from λw hw=>aea (l.drop 4) yK0 _ (l.length-4) (bc-4) oQ oQ (by
  have:=LX.o 4 l.length oQ (abG _) w hw;rw [ai0]at this;exact this))
 have ajl:=uQ (show ∀ w,au w0 w F->Calls prog 184 #[.slice (some ⟨bk,off,none⟩) l.length bc] w (bf λv w'=>v=.int .u32 (ay.bD (l.take 4):Nat)/\w=w') from λw hw=>aea l oQ _ l.length bc hbn hbc (hr w hw))
 have y8:=uQ (show ay.read l=if ay.fC (l.getD 8 0) (ay.bD ((l.drop 4).take 4))=false then (ay.iL,0,4)
  else if l.length<ay.bD ((l.drop 4).take 4) then (ay.iL,0,3)
  else if ay.lq ((l.take (ay.bD ((l.drop 4).take 4))).drop 4)≠ay.bD (l.take 4) then (ay.iL,0,13)
  else if 41<=ay.bD ((l.drop 4).take 4) then (⟨(l.getD 8 0).toNat,(l.drop 9).take 32,(l.take (ay.bD ((l.drop 4).take 4))).drop 41⟩,ay.bD ((l.drop 4).take 4),0)
  else (⟨(l.getD 8 0).toNat,ay.gu,[]⟩,ay.bD ((l.drop 4).take 4),0) by unfold ay.read;rw [abB h9])
 have hN:ay.bD ((l.drop 4).take 4)<4294967296:=by
  have:=ay.uP ((l.drop 4).take 4);rw [abA,abJ]at this;have h4:min 4 (l.length-4)=4:=oQ;rw [h4]at this;omega
 generalize hNN:ay.bD ((l.drop 4).take 4)=N at *
 have hfits:=λw=>amu (l.getD 8 0) N hN w;have hfg:ay.fC (l.getD 8 0) N=true->9<=N:=by
  unfold ay.fC;intro hh;split at hh
  ·have:=ak5 hh;omega
  ·split at hh
   ·have:=ak5 hh;omega
   ·split at hh
    ·have:=ak5 hh;omega
    ·cases hh
 have hc8:∀ w,au w0 w F->w.cell? ⟨bk,off+8,none⟩=some (.int .u8 (l.getD 8 0).toNat):=λw hw=>by
  exact Ij
 have xZ:=uQ hc8;have Hr:=uQ hr;have HH:=uQ hH;have Hl:=uQ hl;have Hfg:=uQ hfg;have ajb:=uQ hfits;have c1:¬ (l.length:Int)<9:=oQ;have c2:¬ bc=4:=oQ;have c3:(4:Int)<=(l.length:Int):=oQ;have c4:(l.length:Int)<=(bc:Int):=oQ;have c5:(8:Int)<(l.length:Int):=oQ;have IY:=uQ (show l.length<=bc/\bc<=9223372036854775807/\9<=l.length/\N<4294967296 from ⟨hbn,hbc,by omega,hN⟩);have hcv:IntKind.i64.wrap (N:Int)=(N:Int):=by rw [aiY];omega
 clear hrd hNN hc8 hr hH hl h9 hbn hbc hfg hfits hN;generalize l.getD 8 0=tg at *
 have NR:=tg.toNat_lt;have hct:IntKind.i64.wrap (tg.toNat:Int)=(tg.toNat:Int):=by rw [aiY];omega
 have htb:(tg.toNat:Int)<256:=oQ;go_enter func142,ntmps142;go_wp2_with ((with_reducible refine ql ⟨?_⟩);refine qA aQ ?_;intro bE wE hE);refine (F7.o _ hE.drop).mono ?_;rintro ee w2 ⟨v,rfl,rfl,rfl⟩;have e8:=xZ.o _ hE.drop;go_wp2_with fail;refine (ajb.o _).mono ?_;rintro ee w2 ⟨v,rfl,rfl,rfl⟩;cases hft:ay.fC tg N
 ·have Hf:=uQ (y8.o.trans (abL hft));clear hft;go_wp2_with (first|((with_reducible refine uG ⟨?_⟩);refine uX ?_)|((with_reducible refine mY ⟨?_⟩);first|(refine jk aQ aA aA yH0 fJ yC0 ?_;intro wS hS)|(refine jk aQ aA aA rfl fJ yC0 ?_;intro wS hS)));rw [Hf.o];refine ⟨rfl,_,vT rfl aQ aA dh rfl,_,rfl,none,0,rfl,au.iW.2 (au.sb hS)⟩
 have Hf:=uQ (y8.o.trans (abB (by rw [hft];decide)));have NH:=Hfg.o hft;clear hft;by_cases NP:l.length<N
 ·have IZ:=uQ (Hf.o.trans (abL NP));have c6:(l.length:Int)<(N:Int):=oQ;clear NP NH;go_wp2_with (first|((with_reducible refine uG ⟨?_⟩);refine uX ?_)|((with_reducible refine mY ⟨?_⟩);first|(refine jk aQ aA aA yH0 fJ yC0 ?_;intro wS hS)|(refine jk aQ aA aA rfl fJ yC0 ?_;intro wS hS)));rw [IZ.o];refine ⟨rfl,_,vT rfl aQ aA dh rfl,_,rfl,none,0,rfl,au.iW.2 (au.sb hS)⟩
 have IZ:=uQ (Hf.o.trans (abB NP));clear Hf y8;have c6:¬ (l.length:Int)<(N:Int):=oQ;have c7:(4:Int)<=(N:Int):=oQ;have c8:(N:Int)<=(bc:Int):=oQ;have D9:=uQ (show N<=l.length/\9<=N by omega);clear NP NH;go_wp2_with fail;refine (SA ((l.take N).drop 4) (Ro.os HH.o) (λw hw=>LX.o 4 N (by have:=D9.o;omega) D9.o.1 w (hw.sb)) hE yP0).mono ?_;rintro ee w2 ⟨v,rfl,rfl,rfl⟩;go_wp2_with fail;refine (ajl.o _ hE.drop).mono ?_;rintro ee w2 ⟨v,rfl,rfl,rfl⟩;generalize ay.lq ((l.take N).drop 4)=A at *
 generalize ay.bD (l.take 4)=B at *
 by_cases hAB:A=B;rotate_left
 ·have Lu:=uQ (IZ.o.trans (abL hAB));have c9:((A:Int)==(B:Int))=false:=by rw [acj];omega
  clear hAB;go_wp2_with (first|((with_reducible refine uG ⟨?_⟩);refine uX ?_)|((with_reducible refine mY ⟨?_⟩);first|(refine jk aQ aA aA yH0 fJ yC0 ?_;intro wS hS)|(refine jk (dn:=0) (dc:=0) aQ aA aA rfl fJ yC0 ?_;intro wS hS)));rw [Lu.o];exact Vo
 subst hAB;have Lu:=uQ (IZ.o.trans (abB (λh=>h rfl)));clear IZ;by_cases xC:41<=N;rotate_left
 ·have QJ:=uQ (Lu.o.trans (abB xC));have c9:¬ (41:Int)<=(N:Int):=oQ;clear xC;go_wp2_with (first|((with_reducible refine Jc ⟨?_⟩);refine KU aA ?_)|((with_reducible refine ql ⟨?_⟩);refine qA aQ ?_;intro bE wE hE)|((with_reducible refine mY ⟨?_⟩);first|(refine jk aQ aA aA yH0 fJ yC0 ?_;intro wS hS)|(refine jk (e:=ay.iL) (da:=none) (dn:=0) (dc:=0) aQ aA aA rfl fJ yC0 ?_;intro wS hS))|((with_reducible refine xA ⟨?_⟩);refine xU aQ aA dh yH0 ?_));rw [QJ.o];simp only [ajw];exact Vo
 have QJ:=uQ (Lu.o.trans (abL xC));have zJ:=uQ (show ((l.drop 9).take 32).length=32 by rw [abA,abJ];have:=D9.o;omega);have QN:=uQ (show (aI ((l.drop 9).take 32)).length=32 by rw [bP];exact zJ.o)
 have ajv:=uQ (show ∀ w,au w0 w F->w.rangeAt bk (off+9) (aI ((l.drop 9).take 32)) from λw hw=>by
  intro j y hj;have hsb:=LX.o 9 41 aU (by have:=D9.o;omega) w hw;have e:(l.take 41).drop 9=(l.drop 9).take 32:=by rw [aom]
  rw [e]at hsb;obtain ⟨b',o',hb,hc⟩:=pq hsb hj;cases hb;exact hc _ _ hj)
 have c9:(41:Int)<=(N:Int):=oQ;have c10:¬ bc=9:=by have:=D9.o;have:=IY.o;omega
 have c11:(41:Int)<=(bc:Int):=oQ;obtain ⟨ad,had,hsl⟩:∃ ad:Addr,(41<N->ad=⟨bk,off+41,none⟩)/\∀ w,(Instr.sliceAt 59 (.slice (some ⟨bk,off,none⟩) l.length bc) (some (.int .i64 41)) (some (.int .i64 N)) none).run prog w=.ok (.slice (some ad) (N-41) (bc-41)) w:=by
  by_cases hce:bc=41
  ·refine ⟨⟨bk,off,none⟩,λhh=>by have:=D9.o;have:=IY.o;omega,λw=>?_⟩;have c12:(N:Int)<=41:=oQ;have c13:¬ (41:Int)<(N:Int):=oQ;go_simp
  ·refine ⟨⟨bk,off+41,none⟩,λ_=>rfl,λw=>?_⟩;go_simp
 have QF:=uQ had
 have ai6:=uQ (show ∀ w,au w0 w F->bK 1 (.slice (some ad) (N-41) (bc-41)) (aI ((l.take N).drop 41)) w from λw hw=>by
  by_cases h2:41<N
  ·rw [QF.o h2];exact LX.o 41 N oQ D9.o.1 w hw
  ·have:(l.take N).drop 41=[]:=aiU yE0;rw [this,show N-41=0 by omega];exact ⟨_,0,_,rfl,rfl,by simp [aI]⟩)
 clear xC had;have hat:=λw=>asx ⟨bk,off+9,none⟩ (bc-9) w
 go_wp2_with (first
  |((with_reducible refine Jc ⟨?_⟩);refine KU aA ?_)|((with_reducible refine ql ⟨?_⟩);refine qA aQ ?_;intro bE wE hE)|((with_reducible refine mY ⟨?_⟩);first|(refine jk aQ aA aA yH0 fJ yC0 ?_;intro wS hS)|(refine jk (e:=ay.iL) (da:=none) (dn:=0) (dc:=0) aQ aA aA rfl fJ yC0 ?_;intro wS hS))
  |((with_reducible refine dH ⟨?_⟩);refine wpList_load_mid aA 34 _ aA bk (off+9) aA (aI ((l.drop 9).take 32)) _ (ajv.o _ (au.sb aQ)) underlying34 rfl (by rw [QN.o];kernel_rfl) ?_)
  |((with_reducible refine eG ⟨?_⟩);refine ava (key:=(l.drop 9).take 32) aQ aA aA rfl zJ.o fJ ?_;intro wK hK)
  |((with_reducible refine Zx ⟨?_⟩);refine ais aA aA aA hsl ?_))
 refine (yL hK (ai6.o _ (hK.sb)) yP0).mono ?_;rintro ee w3 ⟨v,rfl,hS3,ca,cn,cc,rfl⟩;have hcn:cn=((l.take N).drop 41).length:=by
  obtain ⟨_,_,_,he,hl',_⟩:=au.rd hS3;cases he;rw [bP,aiR]at hl';exact hl'.symm
 subst hcn;have YE:=zJ.o;generalize (l.drop 9).take 32=key at *
 generalize (l.take N).drop 41=data at *
 go_wp2_with (first
  |((with_reducible refine eG ⟨?_⟩);refine ait (e:=⟨(tg.toNat:Int),key,[]⟩) (data:=data) aQ aA aA YE fJ ?_;intro wD hD)
  |((with_reducible refine xA ⟨?_⟩);refine xU aQ aA dh yH0 ?_)|((with_reducible refine mY ⟨?_⟩);first|(refine jk aQ aA aA yH0 fJ yC0 ?_;intro wS hS)|(refine jk (e:=ay.iL) (da:=none) (dn:=0) (dc:=0) aQ aA aA rfl fJ yC0 ?_;intro wS hS)))
 rw [QJ.o];simp only;refine ⟨rfl,_,vT rfl aQ aA dh YE,_,rfl,ca,cc,rfl,au.sb hS⟩
end
section
variable {x av:Value}
theorem agq {l:Bs} (h:bK 1 v (aI l) w):(convert 59 9 v).run prog w=.ok (.string ⟨l.toArray⟩) w:=by
 obtain ⟨a,n,c,rfl,f,g⟩:=h;rw [bP,aiR]at f;subst f;cases a with
 |none=>
  obtain rfl:l=[]:=by
   cases l with
   |nil=>rfl
   |cons d l=>obtain ⟨b,e,_⟩:=g 0 _ rfl;cases e
  exact Lib.run_convert_nil_bytes w _ _ 5 c underlying59 underlying5 underlying9
 |some ad=>
  refine run_convert_bytes_back w _ _ 5 ad c l underlying59 underlying5 underlying9 (λj hj=>?_);have hy:(aI l)[j]?=some (.int .u8 (l[j]'hj).toNat):=by unfold aI;rw [ab4,aaf hj];rfl
  obtain ⟨b,e,hc⟩:=g _ _ hy;cases e;simpa using hc
theorem akS (la lb:Bs) (ha:bK 1 av (aI la) w) (hb:bK 1 bv (aI lb) w) :
  Calls prog 183 #[av,bv] w (bf λv w'=>v=.bool (decide (la=lb))/\w=w'):=by
 have h1:=agq ha;have h2:=agq hb
 have He:=(show (la.toArray.toList==lb.toArray.toList)=decide (la=lb) by
  rw [atd,alj,ad2])
 clear ha hb
 go_in
 go_wp2;go_ret;rw [<-He];exact ⟨_,rfl,rfl,rfl⟩
theorem anj (l u:Bs) (a:Option Addr) (n c:Nat) (hn:n<=c) (C:c<=9223372036854775807) (x:bK 1 (.slice a n c) (aI l) w) (A:Option Addr) (z B:Nat) (y:bK 1 (.slice A z B) (aI u) w) :
  Calls prog 141 #[.slice a n c,.slice A z B] w (bf λv w'=>v=.bool (decide (l.take u.length=u))/\w=w'):=by
 have d:n=l.length:=by
  obtain ⟨_,_,_,he,hl',_⟩:=x;exact VE
 have f:z=u.length:=by
  obtain ⟨_,_,_,he,hl',_⟩:=y;exact VE
 subst d f;by_cases b:u.length<=l.length
 ·have g:=agp (k:=u.length) x;rw [show min l.length u.length=u.length by omega]at g;have i:=akS _ _ g y;have j:u.length<=l.length:=oQ;have m:u.length<=c:=oQ
  go_in
  go_wp2_with (go_at_call 183;refine i.mono ?_;rintro e t ⟨v,rfl,rfl,rfl⟩);go_ret;exact ⟨_,rfl,rfl,rfl⟩
 ·have j:=b
  have o:=(show decide (l.take u.length=u)=false by
   apply aes;intro r;have:=aiX List.length r;rw [abA]at this;omega)
  go_in
  go_wp2;go_ret;rw [o];exact ⟨_,rfl,rfl,rfl⟩
end
section
variable {x:Value}
theorem aq6 {k:Nat}{l:Bs}{a:Option Addr}{n c:Nat} (h:bK 1 (.slice a n c) (aI l) w):bK 1 (.slice a (min n k) c) (aI (l.take k)) w:=adC
theorem SY (e:ay.aT) (a:Option Addr) (n c:Nat):(dR e (.slice a n c)).toList.all (·.oneCell')=true:=by
 exact afn
end
def qU (f:ay.fO) (dv:Value):List Value:=mM f.e dv++[.int .i64 f.aP,.int .i64 f.size]
def nU (f:ay.fO) (dv:Value):Array Value:=(qU f dv).toArray
def jw (fs:List (ay.fO×Value)):List Value:=fs.flatMap λp=>qU p.1 p.2
def kT (fs:List (ay.fO×Value)):aO:=nP (fs.map λp=>cZ p.2 p.1.e.data)
theorem Bz (f:ay.fO) (dv:Value) (hk:f.e.key.length=32):(qU f dv).length=36:=by unfold qU;rw [aay,zn _ _ hk];rfl
theorem xB (f:ay.fO) (dv:Value) (hk:f.e.key.length=32):(nU f dv).size=36:=by unfold nU;rw [abC,Bz _ _ hk]
theorem Tn {fs:List (ay.fO×Value)} (hk:∀ p∈fs,p.1.e.key.length=32):(jw fs).length=36*fs.length:=by
 unfold jw
 induction fs with
 |nil=>rfl
 |cons p fs ih=>
  rw [aiN,aay,ih (λq hq=>hk q (.tail _ hq)),Bz _ _ (hk p (.head _)),aiT];omega
theorem aa9 (es fs:List (ay.fO×Value)):jw (es++fs)=jw es++jw fs:=by unfold jw;rw [ai5]
theorem aal (es:List (ay.fO×Value)) (x:ay.fO) (dv:Value):kT (es++[(x,dv)])=fP (cZ dv x.e.data) (kT es):=by
 unfold kT;rw [acy,zG,Iu];show fP (nP [cZ dv x.e.data]) _=_;rw [Iw]
theorem aql:yA prog 154=some [(0,34),(34,1),(35,1)]:=aC
def Yd:ay.fO:=⟨ay.iL,0,0⟩
theorem Qw:nR prog 154=some (.agg (nU Yd (.slice none 0 0))):=aC
theorem aqL (cs:Array Value) (c:cs.size=36) (a:List Value) (u v:Value) (b:a.length=34):(iK (iK (iK cs 0 a) 34 [u]) 35 [v]).toList=a++[u,v]:=by
 have d:cs.toList.length=36:=by simpa using c
 have e:(iK cs 0 a).toList=a++cs.toList.drop 34:=by
  rw [qY _ _ _ oQ,ajN,ajc,aiO,b]
 have f:(iK (iK cs 0 a) 34 [u]).toList=a++[u]++cs.toList.drop 35:=by
  rw [qY _ _ _ (by rw [pW];simp;omega),e,ajj oQ,acE oQ,ai8,List.drop_append,b,aiU (l:=a) oQ,ajc,apl]
 have g:(a++[u]).length=35:=by simp [b]
 rw [qY _ _ _ (by rw [pW,pW];simp;omega),f,ajj oQ,acE oQ,ai8,aiU (by rw [aay,g,abJ];omega)];simp
theorem ag1 (e:ay.aT) (hk:e.key.length=32) (da:Option Addr) (dn dc:Nat) (aP n:Nat) (w:World) :
  (Instr.build 154 #[(0,.agg (dR e (.slice da dn dc))),(1,.int .i64 aP),(2,.int .i64 n)]).run prog w=.ok (.agg (nU ⟨e,aP,n⟩ (.slice da dn dc))) w:=by
 have b:(nU Yd (.slice none 0 0)).size=36:=xB _ _ rfl;have c:(dR e (.slice da dn dc)).size=34:=iw _ _ hk
 have h:=uU [(0,.agg (dR e (.slice da dn dc))),(1,.int .i64 aP),(2,.int .i64 n)] aql Qw (by
  intro p d;simp only [ab9,ajW,av2]at d;have a:(Value.agg (nU Yd (.slice none 0 0))).cells.size=36:=b;rw [a];rcases d with rfl|rfl|rfl
  ·refine ⟨0,?_,?_⟩
   ·show some (0,34)=some (0,(dR e (.slice da dn dc)).size);rw [c]
   ·show 0+(dR e (.slice da dn dc)).size<=36;omega
  ·exact ⟨34,rfl,by show 34+1<=36;omega⟩
  ·exact ⟨35,rfl,by show 35+1<=36;omega⟩) w
 refine h.trans ?_
 congr 2
 apply vS;exact aqL _ b _ _ _ (show (dR e (.slice da dn dc)).toList.length=34 by rw [ahN,c])
section
variable {t:TypeId}{pos:String}{v1 v2 v3:Value}{i1 i2 i3:Nat}
theorem Qp (h1:a.eval x=v1) (h2:a.eval y=v2) (h3:a.eval z=v3) (hr:∀ w,(Instr.build ty #[(i1,v1),(i2,v2),(i3,v3)]).run P w=.ok v w) (h:wpList P ops Q rest (a.put dst v) w) :
  wpList P ops Q (⟨dst,.build ty #[(i1,x),(i2,y),(i3,z)],t,pos,after,none⟩::rest) a w:=
 ajs rfl λ_ hK=>by
  unfold Oper.wp execOp;simp only [akg,aij,ajz,h1,h2,h3,aii,hr,acz,aiV];exact hK _ _ h
theorem MG (h:lQ (wpList P ops Q (⟨dst,.build ty #[(i1,x),(i2,y),(i3,z)],t,pos,after,none⟩::rest) a w)):wpList P ops Q (⟨dst,.build ty #[(i1,x),(i2,y),(i3,z)],t,pos,after,none⟩::rest) a w:=h.o
theorem Jm (f:ay.fO) (a:Option Addr) (n c:Nat):(nU f (.slice a n c)).toList.all (·.oneCell')=true:=by
 unfold nU qU;rw [agQ,ana];have h1:(mM f.e (.slice a n c)).all (·.oneCell')=true:=by
  have:=SY f.e a n c;unfold dR at this
  rwa [agQ]at this
 rw [h1];rfl
end
end Go.Proofs.Y
namespace Go.Sl
open Go
theorem au.ceQ {w0 w : World} {L R : List aO} {b : Nat} {cs : Array Value} {T : TypeId} {v : Value} (h : au w0 w L) (i : Nat) (p : mW (pt b (.cells cs T (0,0))) L R := by exact dh) (hlt : i+1 <= cs.size := by exact bQ) (hv : cs.getD i undef = v := by exact aF) : w.cell? ⟨b, i, none⟩ = some v := h.bI p i (Go.Proofs.Y.abt hlt hv)
end Go.Sl
namespace Go
open Go
theorem ae6(k:C)(h:RowKit.Hid C->B:=by
 intro fM;rw [ao2]at hl;have hlt:=(abM.1 hl).1;obtain ⟨n,hn⟩:∃ n,L.l.length=n+1:=⟨L.l.length-1,by omega⟩;rw [hn,Nat.add_sub_cancel]at hl;obtain ⟨h1,h2⟩:=PY _ _ _ hl;have hS:au w0 w (aK 148 2 lv (jg L.l)::tq p m L lv::F):=h.bZ;revert hlt n hl hn h1 h2 hS;exact fM.o):B:=h (uQ k)
theorem afd(h:B:=by
 simp only [aG.file,aG.kL,abY];rw [aiS this]):B:=h
theorem afL(h:B:=by
 show ((aG.aN _).map λp=>(aG.file _ p.2).aN.length).sum=_;rw [Ez];unfold aG.file aG.kL;simp only [s3]):B:=h
theorem Vz(h:B:=by
 obtain ⟨i,r,a,b⟩:=ih.1 h;exact ⟨i,r,by omega,b⟩):B:=h
theorem VB(h:B:=by
 split;· exact h
 split;· exact h
 exact h.lW _ _):B:=h
theorem af4(h:B:=by
 rw [BitVec.toNat_ofInt];have:((2^64:Nat):Int)=18446744073709551616:=aU;rw [this];omega):B:=h
end Go
namespace Go.aB
open Go.aG
structure bT where
 aZ:Int
 aP:Int
 size:Int
def bT.zero:bT:=⟨0,0,0⟩
def dL:Bs:=[72,79,65,82,68,83,69,71]
def aS.grow (L:aS) (M:aG) (b:Bs):(aS×aG)×bT×Int:=
 match L.l.getLast? with
 |none=>((L,M),bT.zero,0)
 |some s=>
  if (M.append (name s.1) b).2=0 then (({ L with l:=L.l.dropLast++[(s.1,s.2+(b.length:Int))] },(M.append (name s.1) b).1),⟨s.1,s.2,b.length⟩,0)
  else ((L,(M.append (name s.1) b).1),bT.zero,(M.append (name s.1) b).2)
def aS.fA (L:aS) (M:aG):(aS×aG)×Int:=
 match L.l.getLast? with
 |none=>((L,M),0)
 |some s=>
  if L.on=true then
   if (M.dY (name s.1)).2=0 then (({ L with on:=false },(M.dY (name s.1)).1),0)
   else ((L,(M.dY (name s.1)).1),(M.dY (name s.1)).2)
  else ((L,M),0)
def aS.nC (L:aS) (M:aG) (b:Bs):(aS×aG)×bT×Int:=
 if 1048576<=L.next then ((L,M),bT.zero,16)
 else if (M.dM (name L.next)).2≠0 then ((L,(M.dM (name L.next)).1),bT.zero,(M.dM (name L.next)).2)
 else if ((M.dM (name L.next)).1.append (name L.next) (dL++b)).2=0 then
  (({ L with l:=L.l++[(L.next,8+(b.length:Int))],on:=true,dK:=L.dK+1 },((M.dM (name L.next)).1.append (name L.next) (dL++b)).1),⟨L.next,8,b.length⟩,0)
 else if ((M.dM (name L.next)).1.append (name L.next) (dL++b)).2=11 then
  ((L,(((M.dM (name L.next)).1.append (name L.next) (dL++b)).1.dA (name L.next)).1),bT.zero,
   if (((M.dM (name L.next)).1.append (name L.next) (dL++b)).1.dA (name L.next)).2=0 then 11 else (((M.dM (name L.next)).1.append (name L.next) (dL++b)).1.dA (name L.next)).2)
 else ((L,((M.dM (name L.next)).1.append (name L.next) (dL++b)).1),bT.zero,((M.dM (name L.next)).1.append (name L.next) (dL++b)).2)
def aS.begin (L:aS) (M:aG) (b:Bs):(aS×aG)×bT×Int:=
 if (L.fA M).2=0 then (L.fA M).1.1.nC (L.fA M).1.2 b else ((L.fA M).1,bT.zero,(L.fA M).2)
def aS.fC (L:aS) (n:Nat):Bool:=L.on && decide ((L.l.getLast?.map (·.2)).getD 0+n<=L.limit)
def aS.append (L:aS) (M:aG) (x:ay.aT):(aS×aG)×bT×Int:=
 if (ay.dI x).2≠0 then ((L,M),bT.zero,(ay.dI x).2)
 else if L.fC (ay.dI x).1.length=true then L.grow M (ay.dI x).1 else L.begin M (ay.dI x).1
def gq:ay.aT:=⟨2,ay.gu,[]⟩
def aS.jO (L:aS) (M:aG):(aS×aG)×Int×Int:=
 if (L.append M gq).2.2≠0 then ((L.append M gq).1,0,(L.append M gq).2.2)
 else if ((L.append M gq).1.2.dY (name (L.append M gq).2.1.aZ)).2≠0 then (((L.append M gq).1.1,((L.append M gq).1.2.dY (name (L.append M gq).2.1.aZ)).1),0,((L.append M gq).1.2.dY (name (L.append M gq).2.1.aZ)).2)
 else if (((L.append M gq).1.2.dY (name (L.append M gq).2.1.aZ)).1.fU).2≠0 then (((L.append M gq).1.1,(((L.append M gq).1.2.dY (name (L.append M gq).2.1.aZ)).1.fU).1),0,(((L.append M gq).1.2.dY (name (L.append M gq).2.1.aZ)).1.fU).2)
 else (({ (L.append M gq).1.1 with on:=false,dK:=0 },(((L.append M gq).1.2.dY (name (L.append M gq).2.1.aZ)).1.fU).1),(L.append M gq).2.1.aZ,0)
def aS.at (L:aS) (n:Int):Option Nat:=L.l.findIdx? (λs=>s.1==n)
def aS.find (L:aS) (n:Int):Int:=match L.at n with
 |some i=>i
 |none=> -1
def aS.xR (L:aS) (i:Nat):aS:=
 ⟨L.limit,L.l.eraseIdx i,if i+1=L.l.length then false else L.on,if (L.l.length:Int)-L.dK<=i then L.dK-1 else L.dK⟩
def aS.dA (L:aS) (M:aG) (n:Int):(aS×aG)×Int:=
 match L.at n with
 |none=>((L,M),9)
 |some i=>if (M.dA (name n)).2=0 then ((L.xR i,(M.dA (name n)).1),0) else ((L,(M.dA (name n)).1),(M.dA (name n)).2)
def aS.size (L:aS) (n:Int):Int:=match L.at n with
 |none=>0
 |some i=>(L.l.getD i (0,0)).2
def aS.bytes (L:aS) (M:aG) (n:Int):Bs×Int:=match L.at n with
 |none=>([],9)
 |some _=>M.all (name n)
structure aS.Ok (L:aS):Prop where
 limit:128<=L.limit/\L.limit<=1048576
 jA:(L.l.map (·.1)).Pairwise (· < ·)
 eU:∀ s∈L.l,0<=s.1/\s.1<1048576
 nY:∀ s∈L.l,0<=s.2/\s.2<=33554432
 dK:0<=L.dK/\L.dK<=L.l.length
 on:L.on=true->L.l≠[]
theorem agy:∀ (l:List Int) (a:Int),l.Pairwise (· < ·)->(∀ x∈l,a<=x)->(∀ x∈l,x<1048576)->a<=1048576->(l.length:Int)<=1048576-a
 |[],a,_,_,_,h=>by simp;omega
 |x::l,a,hp,h1,h2,h3=>by
  obtain ⟨hx,hp'⟩:=ajk.1 hp;have e1:=h1 x (.head _);have e2:=h2 x (.head _);have:=agy l (x+1) hp' (λy hy=>by have:=hx y hy;omega) (λy hy=>h2 y (.tail _ hy)) oQ;rw [aiT];omega
theorem aS.Ok.len {L:aS} (h:L.Ok):L.l.length<=1048576:=by
 have:=agy (L.l.map (·.1)) 0 h.jA (by intro x hx;obtain ⟨s,hs,rfl⟩:=abI.1 hx;exact (h.eU s hs).1) (by intro x hx;obtain ⟨s,hs,rfl⟩:=abI.1 hx;exact (h.eU s hs).2) oQ;rw [abl]at this;omega
theorem aS.Ok.fA {L:aS} (h:L.Ok) (M:aG):(L.fA M).1.1.Ok:=by
 unfold aS.fA;split;· exact h
 split
 ·split
  ·exact ⟨h.limit,h.jA,h.eU,h.nY,h.dK,λhh=>by cases hh⟩
  ·exact h
 ·exact h
theorem Oe {L:aS}{s:Int×Int} (h:L.l.getLast?=some s):L.l=L.l.dropLast++[s]:=by
 have a:L.l≠[]:=by intro e;rw [e]at h;cases h
 have b:=List.dropLast_concat_getLast a;rw [List.getLast?_eq_some_getLast a]at h;cases h;exact b.symm
theorem ac4 {L:aS}{s:Int×Int} (h:L.l.getLast?=some s):L.l.length=L.l.dropLast.length+1:=by
 have:=aiX List.length (Oe h);rw [aay,ai8]at this;exact this
theorem aS.Ok.next {L:aS} (h:L.Ok):0<=L.next/\L.next<=1048576/\∀ s∈L.l,s.1<L.next:=by
 unfold aS.next;cases hl:L.l.getLast? with
 |none=>
  have:=ajF.1 hl;simp [this]
 |some s=>
  have hs:=h.eU s (aju hl);refine ⟨by simp only;omega,by simp only;omega,?_⟩;have e:=Oe hl;have hr:=h.jA;rw [e,acy,ajJ]at hr;intro t ht;rw [e]at ht;rcases ahc.1 ht with ht|ht
  ·have:=hr.2.2 t.1 (abI.2 ⟨t,ht,rfl⟩) s.1 yD0;simp only;omega
  ·rw [acS.1 ht];simp only;omega
theorem aS.Ok.atG {L:aS} (h:L.Ok) (hn:L.next<1048576) (z:Nat) (hz:z<=16777216):({ L with l:=L.l++[(L.next,8+(z:Int))],on:=true,dK:=L.dK+1 }:aS).Ok:=by
 obtain ⟨e,i,f⟩:=h.next;have hf:=h.dK;refine ⟨h.limit,?_,?_,?_,⟨by simp only;omega,by simp only [aay,ai8];omega⟩,λ_=>by simp⟩
 ·simp only;rw [acy,ajJ];refine ⟨h.jA,by simp,?_⟩;intro a g b d;obtain ⟨s,c,rfl⟩:=abI.1 g;simp only [aij,ajz,acS]at d;subst d;exact f s c
 ·intro s c;rcases ahc.1 c with c|c
  ·exact h.eU s c
  ·rw [acS.1 c];exact ⟨e,hn⟩
 ·intro s c;rcases ahc.1 c with c|c
  ·exact h.nY s c
  ·rw [acS.1 c];exact ⟨by simp only;omega,by simp only;omega⟩
theorem aS.Ok.nC {L:aS} (h:L.Ok) (M:aG) (b:Bs) (hb:b.length<=16777216):(L.nC M b).1.1.Ok:=by
 unfold aS.nC;split;· exact h
 rename_i hn;split;· exact h
 split;· exact h.atG oQ _ hb
 split;· exact h
 exact h
theorem aS.Ok.begin {L:aS} (h:L.Ok) (M:aG) (b:Bs) (hb:b.length<=16777216):(L.begin M b).1.1.Ok:=by
 unfold aS.begin;split
 ·exact (h.fA M).nC _ _ hb
 ·exact h.fA M
theorem aS.Ok.grow {L:aS} (h:L.Ok) (M:aG) (b:Bs) (hf:L.fC b.length=true):(L.grow M b).1.1.Ok:=by
 unfold aS.grow;split;· exact h
 rename_i s c;split
 ·have e:=Oe c;have d:=h.jA;have f:=ac4 c;unfold aS.fC at hf;rw [ajg,ad2,c]at hf;have g:=h.limit;refine ⟨h.limit,?_,?_,?_,?_,λ_=>by simp⟩
  ·rw [e]at d;simpa using d
  ·intro t a;rcases ahc.1 a with a|a
   ·exact h.eU t (by rw [e];exact ajm _ a)
   ·rw [acS.1 a];exact h.eU s (aju c)
  ·intro t a;rcases ahc.1 a with a|a
   ·exact h.nY t (by rw [e];exact ajm _ a)
   ·rw [acS.1 a];have:=h.nY s (aju c);have i:s.2+b.length<=L.limit:=hf.2;simp only;omega
  ·have:=h.dK;simp only [aay,ai8];omega
 ·exact h
theorem SL (x:ay.aT) (hk:x.key.length=32):(ay.dI x).1.length<=16425:=by
 unfold ay.dI;split;· simp
 rename_i hc;have hd:x.data.length<=16384:=by
  unfold ay.kK at hc
  repeat' split at hc
  all_goals first|omega|simp at hc
 unfold ay.body;simp only [aay,ay.nK,ai8];split
 ·simp;omega
 ·omega
theorem aS.Ok.append {L:aS} (h:L.Ok) (M:aG) (x:ay.aT) (hk:x.key.length=32):(L.append M x).1.1.Ok:=by
 have hl:=SL x hk;unfold aS.append;split;· exact h
 split
 ·rename_i hf;exact h.grow M _ hf
 ·exact h.begin M _ oQ
theorem aS.Ok.jO {L:aS} (h:L.Ok) (M:aG):(L.jO M).1.1.Ok:=by
 have a:=h.append M gq rfl;unfold aS.jO;split;· exact a
 split;· exact a
 split;· exact a
 exact ⟨a.limit,a.jA,a.eU,a.nY,⟨avf _,by simp⟩,λb=>by cases b⟩
theorem aS.Ok.xR {L:aS} (h:L.Ok) (i:Nat) (hi:i<L.l.length):(L.xR i).Ok:=by
 have a:(L.l.eraseIdx i).Sublist L.l:=List.eraseIdx_sublist _ _;have b:=List.length_eraseIdx_of_lt hi;have hf:=h.dK;refine ⟨h.limit,h.jA.sublist (a.map _),λs c=>h.eU s (a.mem c),λs c=>h.nY s (a.mem c),?_,?_⟩
 ·unfold aS.xR;simp only [b];split <;> omega
 ·unfold aS.xR;simp only;split
  ·intro d;cases d
  ·intro _ e;have:=aiX List.length e;rw [b]at this;simp at this;omega
theorem aS.MI {L:aS}{n:Int}{i:Nat} (h:L.at n=some i):i<L.l.length/\∃ s,L.l[i]?=some s/\s.1=n:=by
 unfold aS.at at h;rw [List.findIdx?_eq_some_iff_getElem]at h;obtain ⟨h1,h2,_⟩:=h;exact ⟨h1,_,aaf h1,by simpa using h2⟩
theorem aS.Ok.dA {L:aS} (h:L.Ok) (M:aG) (n:Int):(L.dA M n).1.1.Ok:=by
 unfold aS.dA;split;· exact h
 rename_i i hi;split
 ·exact h.xR i (aS.MI hi).1
 ·exact h
def aS.akG:Nat->aS->aG->(aS×aG)×Int
 |0,L,M=>(({ L with on:=false },M),0)
 |k+1,L,M=>
  match L.l.getLast? with
  |none=>(({ L with on:=false },M),0)
  |some s=>if (L.dA M s.1).2=0 then aS.akG k (L.dA M s.1).1.1 (L.dA M s.1).1.2 else L.dA M s.1
end Go.aB
namespace Go.aJ
open Go.ay (Bs fO)
open Go.aB (bT)
open Go.aY (put)
abbrev fZ:=Int×fO
def kD (r:fZ):Bs:=r.2.e.key
def iV (r:fZ):Int:=r.2.e.dB
def pF (r:fZ):bT:=⟨r.1,r.2.aP,r.2.size⟩
structure iH where
 dB:Int
 jf:bT
 first:Int
def iC:List fZ->Bs->Option fZ
 |[],_=>none
 |r::l,k=>match iC l k with
  |some x=>some x
  |none=>if iV r≠2/\kD r=k then some r else none
def uh:List fZ->Bs->Option fZ
 |[],_=>none
 |r::l,k=>if iV r=0/\kD r=k then some r else uh l k
def first (l:List fZ) (k:Bs):Int:=match uh l k with
 |some r=>r.1
 |none=> -1
def lC (l:List fZ) (k:Bs):Option iH:=(iC l k).map λr=>⟨iV r,pF r,first l k⟩
def EG (m:Bs->Option iH) (r:fZ):Int:=match m (kD r) with
 |some a=>a.first
 |none=> -1
def uI (m:Bs->Option iH) (r:fZ):Int:=if iV r=0/\EG m r<0 then r.1 else EG m r
def IC (m:Bs->Option iH) (r:fZ):Bs->Option iH:=
 if iV r=2 then m else put m (kD r) ⟨iV r,pF r,uI m r⟩
theorem G7 (l:List fZ) (r:fZ) (k:Bs):iC (l++[r]) k=if iV r≠2/\kD r=k then some r else iC l k:=by
 induction l with
 |nil=>simp only [ajc,iC]
 |cons x l ih=>
  simp only [ajK,iC,ih];split
  ·rename_i h;split at h
   ·rename_i h2;rw [abL h2];cases h;rfl
   ·rename_i h2;rw [abB h2,h]
  ·rename_i h;split at h
   ·cases h
   ·rename_i h2;rw [abB h2,h]
theorem Tj (l:List fZ) (r:fZ) (k:Bs):uh (l++[r]) k=match uh l k with
  |some x=>some x
  |none=>if iV r=0/\kD r=k then some r else none:=by
 induction l with
 |nil=>simp only [ajc,uh]
 |cons x l ih=>
  simp only [ajK,uh,ih];split
  ·rename_i h;simp only
  ·rfl
theorem apB {l:List fZ}{k:Bs} (h:iC l k=none):uh l k=none:=by
 induction l with
 |nil=>rfl
 |cons x l ih=>
  simp only [iC]at h;split at h
  ·cases h
  ·rename_i h1;split at h
   ·cases h
   ·rename_i h2;simp only [uh];rw [abB λh3=>h2 ⟨by rw [h3.1];decide,h3.2⟩];exact ih h1
theorem aa1 {l:List fZ}{k:Bs}{r:fZ} (h:uh l k=some r):r∈l/\iV r=0/\kD r=k:=by
 induction l with
 |nil=>cases h
 |cons x l ih=>
  simp only [uh]at h;split at h
  ·cases h;exact ⟨.head _,by assumption⟩
  ·exact ⟨.tail _ (ih h).1,(ih h).2⟩
theorem adb (l:List fZ) (r:fZ) (h0:∀ x∈l,0<=x.1):lC (l++[r])=IC (lC l) r:=by
 funext k
 unfold IC;by_cases h2:iV r=2
 ·rw [abL h2];unfold lC first
  rw [G7,abB (λh=>h.1 h2),Tj];cases uh l k with
  |some x=>rfl
  |none=>simp only;rw [abB (λh=>by rw [h2]at h;exact absurd h.1 aU)]
 ·rw [abB h2];unfold put;by_cases hk:k=kD r
  ·subst hk;rw [abL rfl];have e1:∀ k,lC l k=(iC l k).map λr=>⟨iV r,pF r,first l k⟩:=λ_=>rfl;have e2:lC (l++[r]) (kD r)=some ⟨iV r,pF r,first (l++[r]) (kD r)⟩:=by
    unfold lC;rw [G7,abL ⟨h2,rfl⟩,am8]
   rw [e2]
   congr 2
   unfold uI EG;rw [e1];unfold first
   rw [Tj];cases hn:iC l (kD r) with
   |none=>
    rw [apB hn];simp only [avX];by_cases ht:iV r=0
    ·rw [abL ⟨ht,trivial⟩,abL ⟨ht,by decide⟩]
    ·rw [abB (λh=>ht h.1),abB (λh=>ht h.1)]
   |some x=>
    simp only [am8];cases hf:uh l (kD r) with
    |some y=>
     simp only;rw [abB (λh=>by have:=h0 y (aa1 hf).1;omega)]
    |none=>
     simp only;by_cases ht:iV r=0
     ·rw [abL ⟨ht,trivial⟩,abL ⟨ht,by decide⟩]
     ·rw [abB (λh=>ht h.1),abB (λh=>ht h.1)]
  ·rw [abB hk];unfold lC first
   rw [G7,abB (λh=>hk h.2.symm),Tj];cases uh l k with
   |some x=>rfl
   |none=>simp only;rw [abB (λh=>hk h.2.symm)]
def yM (a:iH):Bool:=decide (a.dB=0) || (decide (0<=a.first) && decide (a.first<a.jf.aZ))
def sZ (l:List fZ) (i:Nat):Bool:=match l[i]? with
 |none=>false
 |some r=>decide (iV r<2) && (l.drop (i+1)).all λx => !(decide (iV x<2) && decide (kD x=kD r))
def Gp (l:List fZ) (i:Nat):Bool:=match l[i]? with
 |none=>false
 |some r => !decide (iV r=2) && sZ l i && (decide (iV r=0) || (l.take i).any λx=>decide (iV x=0) && decide (kD x=kD r) && decide (x.1<r.1))
structure Rows (l:List fZ):Prop where
 dB:∀ r∈l,iV r=0\/iV r=1\/iV r=2
 aZ:∀ r∈l,0<=r.1
 jA:l.Pairwise λa b=>a.1<=b.1
theorem adT {l:List fZ}{k:Bs} (ht:∀ r∈l,iV r=0\/iV r=1\/iV r=2):iC l k=none↔(l.all λx => !(decide (iV x<2) && decide (kD x=k)))=true:=by
 induction l with
 |nil=>exact ⟨λ_=>rfl,λ_=>rfl⟩
 |cons y l ih=>
  rw [List.all_cons,ajg,<-ih (λr h=>ht r (.tail _ h))];have hy:=ht y (.head _);simp only [iC];cases hn:iC l k with
  |some x=>simp
  |none=>
   simp only [and_true];by_cases hc:iV y≠2/\kD y=k
   ·rw [abL hc];have:iV y<2:=oQ;simp [this,hc.2]
   ·rw [abB hc];simp only [true_iff,Bool.not_eq_true',Bool.and_eq_false_iff,ai9];by_cases h2:iV y<2
    ·exact .inr λh=>hc ⟨by omega,h⟩
    ·exact .inl h2
theorem adV:∀ {l:List fZ}{i:Nat}{r:fZ},(∀ r∈l,iV r=0\/iV r=1\/iV r=2)->l[i]?=some r->sZ l i=true->iC l (kD r)=some r
 |[],_,_,_,hi,_=>by simp at hi
 |x::l,0,r,ht,hi,hn=>by
  obtain rfl:x=r:=by simpa using hi
  unfold sZ at hn;rw [hi]at hn;simp only [ajg,ad2]at hn;have h2:iC l (kD x)=none:=(adT λr h=>ht r (.tail _ h)).2 hn.2;have:=hn.1;simp only [iC,h2];rw [abL ⟨by omega,trivial⟩]
 |x::l,i+1,r,ht,hi,hn=>by
  have hi':l[i]?=some r:=by simpa using hi
  have hn':sZ l i=true:=by
   unfold sZ at hn ⊢;rw [hi]at hn;rw [hi'];exact hn
  simp only [iC,adV (λr h=>ht r (.tail _ h)) hi' hn']
theorem adX:∀ {l:List fZ}{k:Bs}{r:fZ},(∀ r∈l,iV r=0\/iV r=1\/iV r=2)->iC l k=some r->∃ i,l[i]?=some r/\sZ l i=true/\kD r=k/\iV r≠2
 |[],_,_,_,h=>by cases h
 |x::l,k,r,ht,h=>by
  simp only [iC]at h;cases hn:iC l k with
  |some y=>
   rw [hn]at h;obtain rfl:y=r:=by simpa using h
   obtain ⟨i,a,b,c,d⟩:=adX (λr h=>ht r (.tail _ h)) hn;refine ⟨i+1,by simpa using a,?_,c,d⟩;unfold sZ at b ⊢;rw [a]at b;rw [show (x::l)[i+1]?=some y by simpa using a];exact b
  |none=>
   rw [hn]at h;simp only at h;split at h
   ·rename_i hc;obtain rfl:x=r:=by simpa using h
    refine ⟨0,rfl,?_,hc.2,hc.1⟩;have hx:=ht x (.head _);unfold sZ;simp only [List.getElem?_cons_zero,aiO,List.drop_one,List.tail_cons,ajg,ad2];refine ⟨by omega,?_⟩;rw [<-adT λr h=>ht r (.tail _ h),hc.2];exact hn
   ·cases h
theorem aa0:∀ {l:List fZ}{k:Bs}{r x:fZ},l.Pairwise (λa b=>a.1<=b.1)->uh l k=some r->x∈l->iV x=0->kD x=k->r.1<=x.1
 |[],_,_,_,_,h,_,_,_=>by cases h
 |y::l,k,r,x,hp,h,hx,h0,hk=>by
  obtain ⟨p1,p2⟩:=ajk.1 hp;simp only [uh]at h;split at h
  ·obtain rfl:y=r:=by simpa using h
   rcases ab9.1 hx with rfl|hx
   ·exact avf _
   ·exact p1 x hx
  ·rename_i hc;rcases ab9.1 hx with rfl|hx
   ·exact absurd ⟨h0,hk⟩ hc
   ·exact aa0 p2 h hx h0 hk
theorem ams {l:List fZ}{k:Bs} (h:uh l k=none):∀ x∈l,¬ (iV x=0/\kD x=k):=by
 induction l with
 |nil=>intro x a;cases a
 |cons y l b=>
  simp only [uh]at h;split at h
  ·cases h
  ·rename_i c;intro x a;rcases ab9.1 a with rfl|a
   ·exact c
   ·exact b h x a
theorem ZY {l:List fZ}{i:Nat}{r:fZ} (hl:Rows l) (hi:l[i]?=some r) (hn:sZ l i=true):∃ a,lC l (kD r)=some a/\a.dB=iV r/\a.jf=pF r/\yM a=Gp l i:=by
 have v:=adV hl.dB hi hn;refine ⟨⟨iV r,pF r,first l (kD r)⟩,by unfold lC;rw [v];rfl,rfl,rfl,?_⟩;have w:iV r≠2:=by
  unfold sZ at hn;rw [hi]at hn;simp only [ajg,ad2]at hn;omega
 unfold Gp;rw [hi];simp only [hn,w,decide_false,Bool.not_false,awC];unfold yM;simp only;by_cases b:iV r=0
 ·simp [b]
 ·simp only [b,decide_false,Bool.false_or];rw [atd];simp only [ajg,ad2,List.any_eq_true];unfold first pF
  simp only;cases hf:uh l (kD r) with
  |none=>
   simp only;constructor
   ·intro h;omega
   ·rintro ⟨x,c,⟨d,e⟩,_⟩;exact absurd ⟨d,e⟩ (ams hf x (ajq c))
  |some y=>
   obtain ⟨o,s,z⟩:=aa1 hf;simp only;constructor
   ·rintro ⟨_,t⟩;obtain ⟨j,u,f⟩:=aqj o;have A:j<i:=by
     rcases awy j i with q|q|q
     ·exact q
     ·subst q;rw [aaf u,f]at hi;cases hi;exact absurd s b
     ·obtain ⟨g,m⟩:=abM.1 hi;have:=ao3.1 hl.jA i j g u q;rw [f,m]at this;omega
    refine ⟨y,?_,⟨s,z⟩,t⟩;rw [List.mem_take_iff_getElem];exact ⟨j,by omega,f⟩
   ·rintro ⟨x,c,⟨d,e⟩,t⟩;have:=aa0 hl.jA hf (ajq c) d e;exact ⟨hl.aZ y o,by omega⟩
theorem alo {l:List fZ}{i:Nat} (h:Gp l i=true):sZ l i=true:=by
 unfold Gp at h;split at h
 ·cases h
 ·simp only [ajg]at h;exact h.1.2
end Go.aJ
namespace Go.aY
open Go.ay (Bs)
theorem Jd (a b:Bs):a<b\/a=b\/b<a:=by
 by_cases h1:a<b
 ·exact .inl h1
 ·rcases List.le_iff_lt_or_eq.1 (List.not_lt.1 h1) with h2|h2
  ·exact .inr (.inr h2)
  ·exact .inr (.inl h2.symm)
structure kE {V:Type} (m:Bs->Option V) (l:List (Bs×V)):Prop where
 jA:l.Pairwise λa b=>a.1<b.1
 mem:∀ k v,(k,v)∈l↔m k=some v
theorem agx {V:Type}:∀ {l l':List (Bs×V)},l.Pairwise (λa b=>a.1<b.1)->l'.Pairwise (λa b=>a.1<b.1)->(∀ p,p∈l↔p∈l')->l=l'
 |[],[],_,_,_=>rfl
 |[],b::l',_,_,h=>by have:=(h b).2 (.head _);cases this
 |a::l,[],_,_,h=>by have:=(h a).1 (.head _);cases this
 |a::l,b::l',h1,h2,h=>by
  obtain ⟨a1,a2⟩:=ajk.1 h1;obtain ⟨b1,b2⟩:=ajk.1 h2;have hab:a=b:=by
   rcases ab9.1 ((h a).1 (.head _)) with e|h3
   ·exact e
   ·rcases ab9.1 ((h b).2 (.head _)) with e|h4
    ·exact e.symm
    ·exact absurd (awl (b1 a h3) (a1 b h4)) (avR _)
  subst hab
  congr 1
  refine agx a2 b2 λp=>?_;have:=h p;rw [ab9,ab9]at this;constructor
  ·intro hp;rcases this.1 (.inr hp) with e|h3
   ·subst e;exact absurd (a1 p hp) (avR _)
   ·exact h3
  ·intro hp;rcases this.2 (.inr hp) with e|h3
   ·subst e;exact absurd (b1 p hp) (avR _)
   ·exact h3
theorem kE.FD {V:Type}{m:Bs->Option V}{l l':List (Bs×V)} (h:kE m l) (h':kE m l'):l=l':=
 agx h.jA h'.jA λp=>by rw [h.mem p.1 p.2,h'.mem p.1 p.2]
theorem kE.keys {V:Type}{m:Bs->Option V}{l:List (Bs×V)} (h:kE m l):(l.map (·.1)).Nodup:=by
 rw [List.nodup_iff_pairwise_ne,akC];exact h.jA.imp λ{a b} hab e=>by rw [e]at hab;exact avR _ hab
def yP {V:Type}:List (Bs×V)->Bs×V->List (Bs×V)
 |[],x=>[x]
 |y::l,x=>if x.1<y.1 then x::y::l else y::yP l x
theorem NY {V:Type}:∀ {l:List (Bs×V)}{x p:Bs×V},p∈yP l x↔p=x\/p∈l
 |[],x,p=>by simp [yP]
 |y::l,x,p=>by
  unfold yP;split
  ·rw [ab9]
  ·rw [ab9,NY,ab9];constructor
   ·rintro (h|h|h)
    ·exact .inr (.inl h)
    ·exact .inl h
    ·exact .inr (.inr h)
   ·rintro (h|h|h)
    ·exact .inr (.inl h)
    ·exact .inl h
    ·exact .inr (.inr h)
theorem acP {V:Type}:∀ {l:List (Bs×V)}{x:Bs×V},l.Pairwise (λa b=>a.1<b.1)->(∀ y∈l,y.1≠x.1)->(yP l x).Pairwise λa b=>a.1<b.1
 |[],x,_,_=>List.pairwise_singleton _ _
 |y::l,x,h,hn=>by
  obtain ⟨e,f⟩:=ajk.1 h;unfold yP;split
  ·rename_i c;refine ajk.2 ⟨λz d=>?_,h⟩;rcases ab9.1 d with rfl|d
   ·exact c
   ·exact awl c (e z d)
  ·rename_i c;refine ajk.2 ⟨λz d=>?_,acP f λz d=>hn z (.tail _ d)⟩;rcases NY.1 d with rfl|d
   ·rcases Jd y.1 z.1 with q|q|q
    ·exact q
    ·exact absurd q (hn y (.head _))
    ·exact absurd q c
   ·exact e z d
end Go.aY
namespace Go.aJ
open Go.ay (Bs fO)
open Go.aB (bT)
open Go.aY
def gY (l:List fZ):Nat->List (Bs×bT)
 |0=>[]
 |i+1=>match l[i]? with
  |none=>gY l i
  |some r=>if Gp l i=true/\iV r=0 then yP (gY l i) (kD r,pF r) else gY l i
def live (l:List fZ) (s:Int):Nat->Int
 |0=>0
 |i+1=>match l[i]? with
  |none=>live l s i
  |some r=>if Gp l i=true/\r.1=s then live l s i+r.2.size else live l s i
def kF (s:Int):List (Bs×iH)->Int
 |[]=>0
 |p::l=>(if yM p.2=true/\p.2.jf.aZ=s then p.2.jf.size else 0)+kF s l
def jH (kv:List (Bs×iH)):List (Bs×bT):=(kv.filter λp=>decide (p.2.dB=0)).map λp=>(p.1,p.2.jf)
theorem apy {l:List fZ}{i j:Nat}{r x:fZ} (hi:l[i]?=some r) (hj:l[j]?=some x) (h1:sZ l i=true) (h2:sZ l j=true) (hk:kD r=kD x):i=j:=by
 have aux:∀ {i j:Nat} {r x:fZ},l[i]?=some r->l[j]?=some x->sZ l i=true->sZ l j=true->kD r=kD x->¬ i<j:=by
  intro i j r x hi hj h1 h2 hk hlt;unfold sZ at h1 h2;rw [hi]at h1;rw [hj]at h2;simp only [ajg,ad2,ajC]at h1 h2;have hm:x∈l.drop (i+1):=by
   refine abH (i:=j-(i+1)) ?_;rw [anv,show i+1+(j-(i+1))=j by omega];exact hj
  have:=h1.2 x hm;simp [h2.1,hk]at this
 rcases awy i j with q|q|q
 ·exact absurd q (aux hi hj h1 h2 hk)
 ·exact q
 ·exact absurd q (aux hj hi h2 h1 hk.symm)
def Ae (l:List fZ):Nat->List Bs
 |0=>[]
 |i+1=>match l[i]? with
  |none=>Ae l i
  |some r=>if sZ l i=true then kD r::Ae l i else Ae l i
theorem UL {l:List fZ}:∀ {n:Nat}{k:Bs},k∈Ae l n↔∃ i r,i<n/\l[i]?=some r/\sZ l i=true/\kD r=k
 |0,k=>by simp [Ae]
 |n+1,k=>by
  have ih:=@UL l n k;unfold Ae;constructor
  ·intro h;split at h
   ·exact Vz
   ·rename_i r c;split at h
    ·rename_i d;rcases ab9.1 h with e|h
     ·exact ⟨n,r,by omega,c,d,e.symm⟩
     ·exact Vz
    ·exact Vz
  ·rintro ⟨i,r,hi,c,d,rfl⟩;by_cases f:i<n
   ·have:=ih.2 ⟨i,r,f,c,d,rfl⟩;split
    ·exact this
    ·split
     ·exact .tail _ this
     ·exact this
   ·obtain rfl:i=n:=oQ;rw [c];simp only;rw [abL d];exact .head _
theorem Ot {l:List fZ}:∀ n,(Ae l n).Nodup
 |0=>List.nodup_nil
 |n+1=>by
  unfold Ae;split
  ·exact Ot n
  ·rename_i r hr;split
   ·rename_i hc;refine ao5.2 ⟨λh=>?_,Ot n⟩;obtain ⟨i,x,a,b,c,d⟩:=UL.1 h;have:=apy b hr c hc d;omega
   ·exact Ot n
def Mc (l:List fZ) (s:Int) (k:Bs):Int:=match lC l k with
 |some a=>if yM a=true/\a.jf.aZ=s then a.jf.size else 0
 |none=>0
theorem at1 {f:Bs->Int}{l l':List Bs} (h:l.Perm l'):(l.map f).sum=(l'.map f).sum:=by
 induction h with
 |nil=>rfl
 |cons x _ ih=>simp only [aij,avE,ih]
 |swap x y l=>simp only [aij,avE];omega
 |trans _ _ h1 h2=>rw [h1,h2]
theorem ads {l:List fZ} (c:Rows l) (s:Int):∀ n,live l s n=((Ae l n).map (Mc l s)).sum
 |0=>rfl
 |n+1=>by
  have b:=ads c s n;unfold live Ae;split
  ·rename_i d;rw [b]
  ·rename_i r d;by_cases hn:sZ l n=true
   ·obtain ⟨a,e,i,f,g⟩:=ZY c d hn;rw [abL hn,aij,avE,b];unfold Mc;rw [e];simp only;rw [g,f,show (pF r).aZ=r.1 from rfl,show (pF r).size=(r.2.size:Int) from rfl];split
    ·exact Int.add_comm _ _
    ·exact (Int.zero_add _).symm
   ·rw [abB hn,abB (λh=>hn (alo h.1)),b]
theorem adq {l:List fZ} (s:Int):∀ (kv:List (Bs×iH)),(∀ p∈kv,lC l p.1=some p.2)->kF s kv=((kv.map (·.1)).map (Mc l s)).sum
 |[],_=>rfl
 |p::kv,h=>by
  rw [aij,aij,avE,<-adq s kv λq hq=>h q (.tail _ hq)];unfold Mc;rw [h p (.head _)]
  rfl
theorem aoT {l:List fZ} (hl:Rows l){kv:List (Bs×iH)} (hk:kE (lC l) kv) (s:Int):live l s l.length=kF s kv:=by
 rw [ads hl,adq s kv λp hp=>(hk.mem p.1 p.2).1 hp];refine at1 ((List.perm_ext_iff_of_nodup (Ot _) hk.keys).2 λk=>?_);rw [UL,abI];constructor
 ·rintro ⟨i,r,_,hr,hn,rfl⟩;obtain ⟨a,h1,_⟩:=ZY hl hr hn;exact ⟨(kD r,a),(hk.mem _ _).2 h1,rfl⟩
 ·rintro ⟨⟨k',a⟩,hp,rfl⟩;have h3:=(hk.mem _ _).1 hp;unfold lC at h3;cases hn:iC l k' with
  |none=>rw [hn]at h3;cases h3
  |some r=>
   obtain ⟨i,a,b,c,_⟩:=adX hl.dB hn;exact ⟨i,r,(abM.1 a).1,a,b,c⟩
end Go.aJ
namespace Go.Proofs.Y
open Go.aG
section
variable {x:Value}{q p m:Nat}{L:aB.aS}{M:aG}
theorem PY (l:List (Int×Int)) (i:Nat) (s:Int×Int) (h:l[i]?=some s):(jg l)[2*i]?=some (.int .i64 s.1)/\(jg l)[2*i+1]?=some (.int .i64 s.2):=by
 induction l generalizing i with
 |nil=>simp at h
 |cons a l ih=>
  cases i with
  |zero=>
   obtain rfl:a=s:=by simpa using h
   exact ⟨rfl,rfl⟩
  |succ i=>
   have e1:jg (a::l)=.int .i64 a.1 :: .int .i64 a.2::jg l:=rfl;have h':l[i]?=some s:=by simpa using h
   rw [e1,show 2*(i+1)=2*i+1+1 by omega];exact ih i h'
theorem aoG {s:Int×Int} (hl:L.l.getLast?=some s) (h:au w0 w (tq p m L lv::aK 148 2 lv (jg L.l)::F)) :
  ∃ bk n c,lv=.slice (some ⟨bk,0,none⟩) (n+1) c/\L.l.length=n+1/\w.cell? ⟨bk,2*n,none⟩=some (.int .i64 s.1)/\w.cell? ⟨bk,2*n+1,none⟩=some (.int .i64 s.2):=by
 refine ae6 ?_;intro hlt n hl hn h1 h2 hS;rcases hS.nV with ⟨rfl,f,_⟩|⟨b,g,cap,o,rfl,d,i,r,j,a,e⟩
 ·rw [f]at h1;simp at h1
 ·rw [qx,hn]at d;obtain rfl:g=n+1:=oQ;exact ⟨b,n,cap,rfl,hn,e.dD _ _ (qy a h1),e.dD _ _ (qy a h2)⟩
theorem atF (hlen:L.l.length<=1048576) (hb:∀ s∈L.l,0<=s.1/\s.1<1048576) (h:au w0 w (tq p m L lv::aK 148 2 lv (jg L.l)::F)) :
  Calls prog 226 #[aW p] w (bf λv w'=>v=.int .i64 L.next/\au w0 w' (tq p m L lv::aK 148 2 lv (jg L.l)::F)):=by
 cases hl:L.l.getLast? with
 |none=>
  have a:=ajF.1 hl;refine (apD a h).mono ?_;rintro e j ⟨v,rfl,rfl,rfl⟩;exact ⟨_,rfl,by unfold aB.aS.next;rw [hl],h⟩
 |some s=>
  have b:=uQ (show L.next=s.1+1 by unfold aB.aS.next;rw [hl]);have g:=hb s (aju hl);obtain ⟨i,n,c,rfl,hn,o,d⟩:=aoG hl h;have f:=Aj h;have r:=h.dD 2 _ rfl;have t:=h.drew;have u:w.drew.cell? ⟨i,n*2,none⟩=some (.int .i64 s.1):=by rw [alQ];exact o
  have x:IntKind.i64.wrap (n:Int)=(n:Int):=by rw [aiY];omega
  have y:(n:Int)<(n:Int)+1:=oQ;have A:w.drew.cell? ⟨p,2,none⟩=some (.slice (some ⟨i,0,none⟩) (n+1) c):=r;have z:IntKind.i64.wrap (s.1+1)=s.1+1:=by rw [aiY];omega
  have B:=uQ g;have C:=uQ hn;clear g hn hb hlen hl d;go_enter func226,ntmps226;go_wp2_with (go_at_call 69;refine f.mono ?_;rintro e j ⟨v,rfl,rfl,rfl⟩)
  go_region
  go_wp2;go_ret;exact ⟨_,rfl,by rw [b.o];rfl,t⟩
end
section
variable {t:TypeId}{pos:String}{o:Nat}
theorem kH {g:Option (Nat×Bool)} (hw:Region.wanted ⟨dst,.move x,t,pos,after,g⟩ (yielded ops a.tmps)=true) (hx:a.eval x=v):Yields P ops ⟨dst,.move x,t,pos,after,g⟩ v a:=
 .inl ⟨hw,λw=>by simp only [execOp,hx];rfl⟩
theorem La {g:Option (Nat×Bool)} (hw:Region.wanted ⟨dst,.nilCheck x,t,pos,after,g⟩ (yielded ops a.tmps)=true) (hx:a.eval x=.pointer (some ad)):Yields P ops ⟨dst,.nilCheck x,t,pos,after,g⟩ (.pointer (some ad)) a:=
 .inl ⟨hw,λw=>by simp only [execOp,hx];rfl⟩
theorem rM {g:Option (Nat×Bool)} (hw:Region.wanted ⟨dst,.fieldAddr ty x fl,t,pos,after,g⟩ (yielded ops a.tmps)=true) (hx:a.eval x=vx) (hr:∀ w,(Instr.fieldAt ty vx fl).run P w=.ok v w):Yields P ops ⟨dst,.fieldAddr ty x fl,t,pos,after,g⟩ v a:=
 .inl ⟨hw,λw=>by simp only [execOp,hx,aii,hr,acz,aiV]⟩
theorem vW {g:Option (Nat×Bool)} (hw:Region.wanted ⟨dst,.indexAddr ty x y,t,pos,after,g⟩ (yielded ops a.tmps)=true) (hx:a.eval x=vx) (hy:a.eval y=vy) (hr:∀ w,(Instr.indexAt ty vx vy).run P w=.ok v w):Yields P ops ⟨dst,.indexAddr ty x y,t,pos,after,g⟩ v a:=
 .inl ⟨hw,λw=>by simp only [execOp,hx,hy,aii,hr,acz,aiV]⟩
theorem vV {g:Option (Nat×Bool)} (b:Region.wanted ⟨dst,.binOp bo ty x y tz,t,pos,after,g⟩ (yielded ops a.tmps)=true) (c:a.eval x=vx) (hy:a.eval y=vy) (d:∀ w,((do eqGuard bo ty x y vx vy;binOp bo ty vx vy):Sem Value).run P w=.ok v w):Yields P ops ⟨dst,.binOp bo ty x y tz,t,pos,after,g⟩ v a:=
 .inl ⟨b,λw=>by simp only [execOp,c,hy,aii,d,acz,aiV]⟩
theorem X8 {g:Option (Nat×Bool)} (hw:Region.wanted ⟨dst,.unOp uo ty x,t,pos,after,g⟩ (yielded ops a.tmps)=true) (hx:a.eval x=vx) (hr:∀ w,(Op.unary uo vx).run P w=.ok v w):Yields P ops ⟨dst,.unOp uo ty x,t,pos,after,g⟩ v a:=
 .inl ⟨hw,λw=>by simp only [execOp,hx,aii,hr,acz,aiV]⟩
theorem aiD {g:Option (Nat×Bool)} (hw:Region.wanted ⟨dst,.call { callee:= .builtin .len,args:=#[x],argTypes:=#[ty] },t,pos,after,g⟩ (yielded ops a.tmps)=true) (hx:a.eval x=vx) (hr:∀ w,(Builtin.len_ #[ty] t #[vx]).run P w=.ok v w):Yields P ops ⟨dst,.call { callee:= .builtin .len,args:=#[x],argTypes:=#[ty] },t,pos,after,g⟩ v a:=
 .inl ⟨hw,λw=>by
  rw [aaT,hx];simp only [aii,hr,acz,aiV]⟩
theorem rG {g:Option (Nat×Bool)} (b:Region.wanted ⟨dst,.load ty x,t,pos,after,g⟩ (yielded ops a.tmps)=true) (c:a.eval x=.pointer (some ad)) (d:Fa P ty=true) (e:∀ w,G w->w.cell? ad=some v):YieldsIf P ops G ⟨dst,.load ty x,t,pos,after,g⟩ v a:=
 .inl ⟨b,λw b=>by
  have f:=e w b;simp only [execOp,c,Instr.loadAt,Instr.sureAddr,aii,aiV,acz,ag6 d f]⟩
theorem qh {g:Option (Nat×Bool)}{c:Bool} (hw:Region.wanted ⟨dst,.pick x y z,t,pos,after,g⟩ (yielded ops a.tmps)=true) (hx:a.eval x=.bool c) (hv:(if c then a.eval y else a.eval z)=v):Yields P ops ⟨dst,.pick x y z,t,pos,after,g⟩ v a:=
 .inl ⟨hw,λw=>by
  subst hv;simp only [execOp,hx];cases c <;> rfl⟩
theorem Gv {g:Option (Nat×Bool)}{f:FuncId}{xs:Array Operand}{ts:Array TypeId}{K:Act->World->Prop}{E:Prop} (vs:List Value) (hw:Region.wanted ⟨dst,.call { callee:= .value (.func f),args:=xs,argTypes:=ts },t,pos,after,g⟩ (yielded ops a.tmps)=true) (hf:Di P f=true) (hv:xs.toList.map a.eval=vs)
  (h:Calls P f vs.toArray w (Gi K Q a dst)):if Region.wanted ⟨dst,.call { callee:= .value (.func f),args:=xs,argTypes:=ts },t,pos,after,g⟩ (yielded ops a.tmps)=true then
   Oper.wp P ⟨dst,.call { callee:= .value (.func f),args:=xs,argTypes:=ts },t,pos,after,g⟩ a w K Q else E:=by
 rw [abL hw];have h0:=Gu (P:=P) (ops:=ops) (a:=a) (w:=w) (Q:=Q) (dst:=dst) (t:=t) (pos:=pos) (after:=after) (K:=K) (E:=False) (xs:=xs) (ts:=ts) vs hf hv h;rw [abL (rH _ rfl)]at h0;exact h0
theorem fF {l:Array Bool}{n:Nat}{b:List Nat}{d:Oper} (i:Nat) (hi:ops.toList[i]?=some d) (f:(Region.noSelect ops && Region.free .any ops l i && (Region.ready .any ops l).contains i && BR ops l)=true)
  (g:∀ c a w,Q (.panic c) (a.put d.dst undef) w->Q (.panic c) a w) (j:Region.wanted d (yielded ops a.tmps)=false) {e:Act} (k:a.put d.dst undef=e)
  (h:nZ P ops Q b G n (l.setIfInBounds i true) e w):nZ P ops Q b G (n+1) l a w:=
 VT i hi f g (.inr ⟨j,rfl⟩) k h
end
abbrev Lj:=List (Value×iI)
structure RF where
 f:dw
 fv:Value
 nv:Value
 wv:Value
 ws:List (jQ×Value)
section
variable {D:aG}{xs:List RF}{g:Lj}
theorem WX:∀ (l:List aO) (A:aO),A∈l->∃ G,nP l=fP A G
 |B::l,A,h=>by
  rcases ab9.1 h with rfl|h
  ·exact ⟨_,rfl⟩
  ·obtain ⟨G,hG⟩:=WX l A h;refine ⟨fP B G,?_⟩;show fP B (nP l)=_;rw [hG,zF]
end
section
variable {o:Nat}{t:TypeId}{pos:String}{K:Act->World->Prop}
theorem qE (hs:au w0 w L) (r:a.eval x=.pointer (some ⟨b,o,none⟩)) (hy:a.eval y=v){cs':Array Value} (m:iK cs o v.cells.toList=cs') (u:vY (pt b (.cells cs T (0,0))) (pt b (.cells cs' T (0,0))) L L') (n:o+v.cells.size<=cs.size)
  (hi:(P.info? ty).map (·.size)=some v.cells.size) (s:v.cells.toList.all (·.oneCell')=true)
  (z:∀ w',au w0 w' L'->K (a.put dst undef) w') :
  if Region.wanted ⟨dst,.store ty x y,t,pos,after,none⟩ (yielded ops a.tmps)=true then Oper.wp P ⟨dst,.store ty x y,t,pos,after,none⟩ a w K Q else E:=by
 subst m;obtain ⟨l,e,f⟩:=u;refine Ey rfl ?_;have h:=hs.perm e;have c:w.there b o v.cells.size:=by
  exact afG
 have hst:=run_storeCells_cells (P:=P) b o v.cells.toList 0 w (λj hj=>by simpa using (c j yY0).1) (λj hj=>by simpa using (c j yY0).2)
  (λu g=>(ajC.1 s) u g)
 have d:(storeVar ty ⟨b,o,none⟩ v).run P w=.ok () (w.setCells b o v.cells.toList):=by
  cases hq:P.info? ty with
  |none=>simp [hq]at hi
  |some i=>
   exact afD
 unfold Oper.wp execOp;simp only [r,hy,Instr.storeAt,Instr.sureAddr,aii,aiV,acz,d];exact z _ ((au.KA _ _ h).perm f.symm)
end
def RF.zero:RF:=⟨dw.iZ,.slice none 0 0,.slice none 0 0,.slice none 0 0,[]⟩
end Go.Proofs.Y
namespace Go.aG
theorem IV (l:Bs) (i:Nat) (y:UInt8):(iE l i y).length=l.length:=by unfold iE;simp
def nH (c d:jQ):Prop:=d.cut=c.cut/\d.n=c.n/\d.b.length=c.b.length
theorem ap5 {c d:jQ} (h:nH c d){l l':Bs} (hl:l'.length=l.length):(d.on l').length=(c.on l).length:=by
 obtain ⟨h1,h2,h3⟩:=h;unfold jQ.on;rw [h1];split
 ·simp [h2,hl]
 ·simp [h3,hl]
theorem aks {f g:dw} (h0:g.jo.length=f.jo.length) (hw:g.waits.length=f.waits.length)
  (hc:∀ (k:Nat) (c d:jQ),f.waits[k]?=some c->g.waits[k]?=some d->nH c d):∀ k,k<=f.waits.length->(g.at k).length=(f.at k).length:=by
 intro k
 induction k with
 |zero=>intro _;exact h0
 |succ k ih=>
  intro hk;have h1:f.waits[k]?=some (f.waits[k]'oQ):=aaf _;have h2:g.waits[k]?=some (g.waits[k]'oQ):=aaf _;rw [f.yj k _ h1,g.yj k _ h2];exact ap5 (hc k _ _ h1 h2) (ih oQ)
theorem avh {l:Bs}{i:Nat} (y:UInt8) (b:Bs) (h:i<l.length):iE (l++b) i y=iE l i y++b:=by
 unfold iE;rw [List.set_append_left _ _ h,abY,aiS h,abY]
theorem avi {l:Bs}{i:Nat} (y:UInt8) (b:Bs) (h:l.length<=i):iE (l++b) i y=l++iE b (i-l.length) y:=by
 unfold iE;rw [List.set_append_right _ _ h,abY,aiP h,abY]
theorem avj (l:Bs) (i n:Nat) (y:UInt8):(iE l i y).take n=iE (l.take n) i y:=by
 unfold iE;rw [List.take_set];by_cases h:i<n
 ·rw [abY,abY,avD h]
 ·rw [List.set_eq_of_length_le yO0,List.set_eq_of_length_le yO0]
theorem ap6 (c:jQ) (l:Bs) (i:Nat) (y:UInt8) (h:c.cut=true\/i<l.length):c.on (iE l i y)=iE (c.on l) i y:=by
 unfold jQ.on;cases hc:c.cut
 ·simp only [ajI,auQ];rcases h with h|h
  ·rw [hc]at h;cases h
  ·exact (avh y c.b h).symm
 ·simp only [auT];exact avj l i c.n y
def zf (f:dw) (i k n:Nat):Prop:=∀ (j:Nat) (c:jQ),k<=j->j<n->f.waits[j]?=some c->c.cut=true\/i<(f.at j).length
theorem Zy {f g:dw}{i k:Nat}{y:UInt8} (m:g.at k=iE (f.at k) i y) (n:∀ j,k<=j->g.waits[j]?=f.waits[j]?) (o:zf f i k f.waits.length) :
  ∀ j,k<=j->j<=f.waits.length->g.at j=iE (f.at j) i y:=by
 intro j c
 induction c with
 |refl=>intro _;exact m
 |@step j b d=>
  intro l;have a:f.waits[j]?=some (f.waits[j]'oQ):=aaf _;have e:g.waits[j]?=some (f.waits[j]'oQ):=by rw [n j b];exact a
  rw [f.yj j _ a,g.yj j _ e,d oQ];exact ap6 _ _ _ _ (o j _ b oQ a)
theorem PE (f:dw) (i:Nat) (y:UInt8):∀ n,n<=f.waits.length ->
  (Am f i y n=none/\zf f i 0 n) \/
  ∃ (k:Nat) (c:jQ),k<n/\f.waits[k]?=some c/\c.cut=false/\(f.at k).length<=i/\Am f i y n=some (f.waits.set k { c with b:=iE c.b (i-(f.at k).length) y })/\zf f i (k+1) n
 |0,_=> .inl ⟨rfl,λj c _ h=>by omega⟩
 |n+1,hn=>by
  have B:f.waits[n]?=some (f.waits[n]'oQ):=aaf _;generalize f.waits[n]'oQ=c at B;have step:(c.cut=true\/i<(f.at n).length)->Am f i y (n+1)=Am f i y n:=by
   intro h;show (match f.waits[n]? with|none=>_|some c=>_)=_;rw [B];simp only;rcases h with h|h
   ·rw [abL h]
   ·split
    ·rfl
    ·rw [abB oQ]
  have a:∀ k,(c.cut=true\/i<(f.at n).length)->zf f i k n->zf f i k (n+1):=by
   intro k h s j d l t hd;rcases anF j n with e|u
   ·exact s j d l e hd
   ·obtain rfl:j=n:=oQ;rw [B]at hd;cases hd;exact h
  by_cases h:c.cut=true\/i<(f.at n).length
  ·rcases PE f i y n oQ with ⟨m,g⟩|⟨k,d,m,g,v,w,x,z⟩
   ·exact .inl ⟨(step h).trans m,a 0 h g⟩
   ·exact .inr ⟨k,d,by omega,g,v,w,(step h).trans x,a _ h z⟩
  ·have o:c.cut=false:=by cases hcc:c.cut;rfl;exact absurd (.inl hcc) h
   have r:=Nat.le_of_not_lt λA=>h (.inr A);refine .inr ⟨n,c,by omega,B,o,r,?_,λj d l t=>by omega⟩;show (match f.waits[n]? with|none=>_|some c=>_)=_;rw [B];simp only [o,ajI,auQ];rw [abL r]
theorem agG {f g:dw}{K:Nat} (h:f.Ok K) (r:g.jo.length=f.jo.length) (n:g.waits.length=f.waits.length)
  (o:∀ (k:Nat) (c d:jQ),f.waits[k]?=some c->g.waits[k]?=some d->nH c d) (hn:g.aN=g.at f.waits.length):g.Ok K:=by
 have e:=aks r n o;refine ⟨by rw [n];exact hn,?_,?_,by rw [n];exact h.wC⟩
 ·intro k d b hd;have i:=(abM.1 b).1;have⟨c,a⟩:∃ c,f.waits[k]?=some c:=⟨f.waits[k]'oQ,aaf _⟩;have⟨j,l,m⟩:=o k c d a b;rw [e k oQ,l];exact h.MX k c a (by rw [<-j];exact hd)
 ·intro k b;rw [e k oQ];exact h.size k oQ
theorem dw.Ok.gW {f:dw}{K:Nat} (h:f.Ok K) (i:Nat) (y:UInt8):(f.gW i y).Ok K/\(f.gW i y).aN=iE f.aN i y:=by
 rcases PE f i y f.waits.length (abG _) with ⟨s,t⟩|⟨k,c,A,B,n,o,s,t⟩
 ·have e:f.gW i y={ f with aN:=iE f.aN i y,jo:=iE f.jo i y }:=by unfold dw.gW;rw [s]
  rw [e];refine ⟨agG h (IV _ _ _) rfl (λk c d r a=>?_) ?_,rfl⟩
  ·rw [r]at a;cases a;exact ⟨rfl,rfl,rfl⟩
  ·have:=Zy (g:={ f with aN:=iE f.aN i y,jo:=iE f.jo i y }) (k:=0) (y:=y) rfl (λj _=>rfl) t f.waits.length (acn _) (abG _);rw [this,<-h.aN]
 ·have e:f.gW i y={ f with aN:=iE f.aN i y,waits:=f.waits.set k { c with b:=iE c.b (i-(f.at k).length) y } }:=by unfold dw.gW;rw [s]
  rw [e];have l:(f.waits.set k { c with b:=iE c.b (i-(f.at k).length) y })[k]?=some { c with b:=iE c.b (i-(f.at k).length) y }:=by rw [List.getElem?_set_self A]
  refine ⟨agG h rfl yD0 (λj C d r a=>?_) ?_,rfl⟩
  ·simp only at a;by_cases u:k=j
   ·subst u;rw [l]at a;rw [B]at r;cases r;cases a;exact ⟨rfl,rfl,IV _ _ _⟩
   ·rw [List.getElem?_set_ne u,r]at a;cases a;exact ⟨rfl,rfl,rfl⟩
  ·generalize hg:({ f with aN:=iE f.aN i y,waits:=f.waits.set k { c with b:=iE c.b (i-(f.at k).length) y } }:dw)=g;have m:g.waits=f.waits.set k { c with b:=iE c.b (i-(f.at k).length) y }:=by rw [<-hg]
   have v:g.jo=f.jo:=by rw [<-hg]
   have w:g.aN=iE f.aN i y:=by rw [<-hg]
   have x:g.at k=f.at k:=by unfold dw.at;rw [m,v,List.take_set_of_le (abG _)]
   have z:g.at (k+1)=iE (f.at (k+1)) i y:=by
    rw [g.yj k _ (by rw [m];exact l),x,f.yj k c B];unfold jQ.on;simp only [n,ajI,auQ];rw [avi y c.b o]
   have:=Zy z (λj u=>by rw [m,List.getElem?_set_ne oQ]) t f.waits.length A (abG _);rw [this,w,<-h.aN]
theorem aG.Ok.gW {M:aG}{K:Nat} (h:M.Ok K) (s:ByteArray) (i:Int) (y:UInt8):(M.gW s i y).1.Ok (K+1):=by
 unfold aG.gW;split
 ·exact h.mono (akA _)
 ·split
  ·exact h.mono (akA _)
  ·exact h.lW _ _ (((h.file _).gW _ _).1.mono (akA _))
structure AL where
 kind:Int
 name:ByteArray
 to:ByteArray
 n:Int
 m:Int
 b:Bs
 l:List Int
def G6 (m:Int):UInt8:=UInt8.ofNat (m%256).toNat
def aG.zl (M:aG) (x:AL):aG×(Bs×Int×Bool):=
 if x.kind=0 then ((M.dM x.name).1,[],(M.dM x.name).2,false)
 else if x.kind=1 then ((M.append x.name x.b).1,[],(M.append x.name x.b).2,false)
 else if x.kind=2 then ((M.FC x.name x.n).1,[],(M.FC x.name x.n).2,false)
 else if x.kind=3 then ((M.kC x.name x.to).1,[],(M.kC x.name x.to).2,false)
 else if x.kind=4 then ((M.dA x.name).1,[],(M.dA x.name).2,false)
 else if x.kind=5 then ((M.dY x.name).1,[],(M.dY x.name).2,false)
 else if x.kind=6 then (M.fU.1,[],M.fU.2,false)
 else if x.kind=7 then ((M.En x.n).1,[],(M.En x.n).2,false)
 else if x.kind=8 then (M.Jg x.l,[],0,false)
 else if x.kind=9 then ((M.Iq x.n).1,[],(M.Iq x.n).2,false)
 else if x.kind=10 then ((M.gW x.name x.n (G6 x.m)).1,[],0,(M.gW x.name x.n (G6 x.m)).2)
 else (M,(M.read x.name x.n x.m).1,(M.read x.name x.n x.m).2,false)
theorem aG.alV {P:aG×Bs×Int×Bool->Prop}{M:aG}{x:AL}
  (k:x.kind=0->P ((M.dM x.name).1,[],(M.dM x.name).2,false))
  (p:x.kind=1->P ((M.append x.name x.b).1,[],(M.append x.name x.b).2,false))
  (q:x.kind=2->P ((M.FC x.name x.n).1,[],(M.FC x.name x.n).2,false))
  (t:x.kind=3->P ((M.kC x.name x.to).1,[],(M.kC x.name x.to).2,false))
  (u:x.kind=4->P ((M.dA x.name).1,[],(M.dA x.name).2,false))
  (v:x.kind=5->P ((M.dY x.name).1,[],(M.dY x.name).2,false))
  (w:x.kind=6->P (M.fU.1,[],M.fU.2,false))
  (y:x.kind=7->P ((M.En x.n).1,[],(M.En x.n).2,false))
  (z:x.kind=8->P (M.Jg x.l,[],0,false))
  (A:x.kind=9->P ((M.Iq x.n).1,[],(M.Iq x.n).2,false))
  (h:x.kind=10->P ((M.gW x.name x.n (G6 x.m)).1,[],0,(M.gW x.name x.n (G6 x.m)).2))
  (B:x.kind≠0/\x.kind≠1/\x.kind≠2/\x.kind≠3/\x.kind≠4/\x.kind≠5/\x.kind≠6/\x.kind≠7/\x.kind≠8/\x.kind≠9/\x.kind≠10->P (M,(M.read x.name x.n x.m).1,(M.read x.name x.n x.m).2,false)):P (M.zl x):=by
 unfold aG.zl;by_cases c:x.kind=0;· rw [abL c];exact k c
 rw [abB c];by_cases d:x.kind=1;· rw [abL d];exact p d
 rw [abB d];by_cases e:x.kind=2;· rw [abL e];exact q e
 rw [abB e];by_cases f:x.kind=3;· rw [abL f];exact t f
 rw [abB f];by_cases g:x.kind=4;· rw [abL g];exact u g
 rw [abB g];by_cases i:x.kind=5;· rw [abL i];exact v i
 rw [abB i];by_cases j:x.kind=6;· rw [abL j];exact w j
 rw [abB j];by_cases o:x.kind=7;· rw [abL o];exact y o
 rw [abB o];by_cases r:x.kind=8;· rw [abL r];exact z r
 rw [abB r];by_cases s:x.kind=9;· rw [abL s];exact A s
 rw [abB s];by_cases a:x.kind=10;· rw [abL a];exact h a
 rw [abB a];exact B ⟨c,d,e,f,g,i,j,o,r,s,a⟩
structure jL (M:aG):Prop where
 vI:M.vI=false
 off:M.off=false
 left:M.left=0
theorem jL.iZ (r:Nat):jL (iZ r):=⟨rfl,rfl,rfl⟩
theorem jL.step {M:aG} (h:jL M):M.step=(M,true):=by simp [aG.step,h.vI]
theorem jL.kL {M:aG} (h:jL M) (x:lY):jL (M.kL x):=⟨h.vI,h.off,h.left⟩
theorem jL.lW {M:aG} (h:jL M) (i:Nat) (f:dw):jL (M.lW i f):=⟨h.vI,h.off,h.left⟩
theorem jL.dM {M:aG} (h:jL M) (s:ByteArray):jL (M.dM s).1:=by
 unfold aG.dM;rw [h.step];split;· exact h
 split;· exact h
 split;· exact h
 split;· exact h
 split;· exact h
 exact ⟨h.vI,h.off,h.left⟩
theorem jL.append {M:aG} (h:jL M) (s:ByteArray) (b:Bs):jL (M.append s b).1:=by
 unfold aG.append;rw [h.step];split;· exact h
 split;· exact h
 exact VB
theorem jL.kC {M:aG} (h:jL M) (s t:ByteArray):jL (M.kC s t).1:=by
 unfold aG.kC;rw [h.step];split;· exact h
 split;· exact h
 split;· exact h
 split;· exact h
 exact h.kL _
theorem jL.dA {M:aG} (h:jL M) (s:ByteArray):jL (M.dA s).1:=by
 unfold aG.dA;rw [h.step];split;· exact h
 split;· exact h
 split;· exact h
 exact h.kL _
theorem jL.dY {M:aG} (h:jL M) (s:ByteArray):jL (M.dY s).1:=by
 unfold aG.dY;rw [h.step];split;· exact h
 exact VB
theorem jL.fU {M:aG} (h:jL M):jL M.fU.1:=by
 unfold aG.fU;rw [h.step];split;· exact h
 split;· exact h
 exact ⟨h.vI,h.off,h.left⟩
theorem jL.gW {M:aG} (h:jL M) (s:ByteArray) (i:Int) (y:UInt8):jL (M.gW s i y).1:=by
 unfold aG.gW;exact VB
theorem jL.KI {M:aG} (h:jL M){s:ByteArray}{i:Nat} (hs:dN M.aN s=some i):M.dY s=(M.lW i (M.file i).dY,0):=by
 unfold aG.dY;rw [h.step,h.off,hs]
 rfl
theorem Df {M:aG}{i:Nat}{f:dw} (hi:i<M.dU.length) (j:Nat):(M.lW i f).file j=if j=i then f else M.file j:=by
 unfold aG.lW aG.file;simp only [abY];split
 ·rename_i h;subst h;rw [List.getElem?_set_self hi];rfl
 ·rename_i h;rw [List.getElem?_set_ne (Ne.symm h)]
theorem jL.KH {M:aG} (h:jL M):M.fU=({ M with jo:=M.aN,waits:=[] },0):=by
 unfold aG.fU;rw [h.step,abB (by rw [h.off];exact Bool.false_ne_true)];simp
theorem jL.list {M:aG} (h:jL M):M.list=M.aN.map (·.1):=by unfold aG.list;rw [h.off];rfl
def xX (M:aG):Prop:=(M.aN.map (·.2)).Nodup
theorem XK {M:aG} (hs:tX M.aN) (hd:xX M){s:ByteArray}{i:Nat} (h:dN M.aN s=some i) :
  (∀ p∈jY M.aN s,p.2≠i)/\∀ g:Nat->Nat,(M.aN.map λp=>g p.2).sum=g i+((jY M.aN s).map λp=>g p.2).sum:=by
 have a:=UJ hs.keys (lZ h);constructor
 ·have b:=hd;have:=(a.map (λp:ByteArray×Nat=>p.2)).nodup_iff.1 b;simp only [aij,ao5]at this;intro p a e;exact this.1 (abI.2 ⟨p,a,e⟩)
 ·intro g;have:=(a.map λp=>g p.2).sum_nat;simpa using this
theorem Xa {l:iI}{g h:Nat->Nat} (e:∀ p∈l,g p.2=h p.2):(l.map λp=>g p.2).sum=(l.map λp=>h p.2).sum:=by
 rw [anP e]
theorem aie {M:aG}{K:Nat} (ok:M.Ok K) (hd:xX M){s:ByteArray}{i:Nat} (h:dN M.aN s=some i) (f:dw) :
  (M.lW i f).cO+(M.file i).aN.length=M.cO+f.aN.length:=by
 obtain ⟨c,a⟩:=XK ok.jR.sU hd h;have hi:=ok.jR.qG _ (lZ h);have d:=a λj=>(M.file j).aN.length;have b:=a λj=>((M.lW i f).file j).aN.length
 have e:((jY M.aN s).map λp=>((M.lW i f).file p.2).aN.length).sum=((jY M.aN s).map λp=>(M.file p.2).aN.length).sum:=
  Xa (g:=λj=>((M.lW i f).file j).aN.length) (h:=λj=>(M.file j).aN.length) λp l=>by rw [Df hi,abB (c p l)]
 have m:(M.lW i f).file i=f:=by rw [Df hi,abL rfl]
 simp only [m,e]at b;show (M.aN.map λp=>((M.lW i f).file p.2).aN.length).sum+_=(M.aN.map λp=>(M.file p.2).aN.length).sum+_;rw [d,b];omega
theorem P7 (l:iI) (s:ByteArray) (g:Nat->Nat):((jY l s).map λp=>g p.2).sum<=(l.map λp=>g p.2).sum:=by
 induction l with
 |nil=>exact abG _
 |cons p l ih=>
  unfold jY at ih ⊢;rw [anT];split
  ·simp only [aij,avE];omega
  ·simp only [aij,avE];omega
theorem KF (l:iI) (s:ByteArray) (i:Nat) (g:Nat->Nat):((qp l s i).map λp=>g p.2).sum=g i+((jY l s).map λp=>g p.2).sum:=by
 have:=((BG l s i).map λp=>g p.2).sum_nat;simpa using this
theorem ad3 {l:iI}{s:ByteArray}{i:Nat} (h:(l.map (·.2)).Nodup) (hi:∀ p∈l,p.2≠i):((qp l s i).map (·.2)).Nodup:=by
 refine ((BG l s i).map (·.2)).nodup_iff.2 ?_;simp only [aij,ao5];refine ⟨λhm=>?_,h.sublist (auR.map _)⟩;obtain ⟨p,hp,e⟩:=abI.1 hm;exact hi p (ai4.1 hp).1 e
structure qO (M M':aG):Prop where
 room:M'.room=M.room
 dst:xX M'
 cO:M'.cO<=M'.room
theorem atT (M:aG):M.step.1.room=M.room/\M.step.1.aN=M.aN/\M.step.1.dU=M.dU:=⟨M.qg.1,M.qg.2.2.1,M.qg.2.2.2.1⟩
theorem qO.atq {M:aG} (hd:xX M) (hu:M.cO<=M.room):qO M M:=⟨rfl,hd,hu⟩
theorem aib {M a:aG} (b:a.aN=M.aN) (c:a.dU=M.dU):a.cO=M.cO:=by unfold aG.cO aG.file;rw [b,c]
theorem qO.Ej {M a:aG} (hd:xX M) (d:M.cO<=M.room) (b:a.room=M.room) (c:a.aN=M.aN) (e:a.dU=M.dU):qO M a:=
 ⟨b,by unfold xX;rw [c];exact hd,by rw [aib c e,b];exact d⟩
theorem qO.set {M a:aG}{K:Nat} (ok:M.Ok K) (hd:xX M) (g:M.cO<=M.room) (b:a.room=M.room) (c:a.aN=M.aN) (d:a.dU=M.dU){s:ByteArray}{i:Nat} (h:dN M.aN s=some i) (f:dw)
  (hf:M.cO+f.aN.length<=M.room+(M.file i).aN.length):qO M (a.lW i f):=by
 have e:(a.lW i f).cO=(M.lW i f).cO:=aib (by exact c) (by show a.dU.set i f=M.dU.set i f;rw [d]);have:=aie ok hd h f;refine ⟨b,by show (a.aN.map (·.2)).Nodup;rw [c];exact hd,?_⟩;rw [e];show _<=a.room;rw [b];omega
theorem qO.zl {M:aG}{K:Nat} (ok:M.Ok K) (hd:xX M) (hu:M.cO<=M.room) (x:AL) (h8:x.kind≠8) (h9:x.kind≠9) :
  qO M (M.zl x).1/\((M.zl x).2.2.1=11->x.kind=1/\M.room<M.zI+x.b.length):=by
 have r:=qO.atq hd hu;obtain ⟨a,c,s3⟩:=atT M;have d:=qO.Ej hd hu a c s3;refine aG.alV (P:=λq=>qO M q.1/\(q.2.2.1=11->x.kind=1/\M.room<M.zI+x.b.length)) ?_ ?_ ?_ ?_ ?_ ?_ ?_ ?_ ?_ ?_ ?_ ?_
 ·intro _;unfold aG.dM;split;· exact ⟨r,by simp⟩
  split;· exact ⟨r,by simp⟩
  rename_i hg;split;· exact ⟨r,by simp⟩
  rename_i hn;split;· exact ⟨r,by simp⟩
  split;· exact ⟨d,by simp⟩
  refine ⟨?_,by simp⟩;have s:dN M.aN x.name=none:=by simpa using hn
  have m:=ok.jR.qG;have f:=yx (by simpa using hg);have Ez:(({ M.step.1 with dU:=M.dU++[dw.iZ] }:aG).kL ⟨ByteArray.empty,x.name,M.dU.length⟩).aN=qp M.aN x.name M.dU.length:=by
   show lY.on _ M.step.1.aN=_;rw [c];unfold lY.on;simp only [auT,abB f]
  have n:=EX s;refine ⟨a,?_,?_⟩
  ·unfold xX;rw [Ez];exact ad3 hd λp t e=>by have:=m p t;omega
  ·have:(({ M.step.1 with dU:=M.dU++[dw.iZ] }:aG).kL ⟨ByteArray.empty,x.name,M.dU.length⟩).cO=M.cO:=by
    show ((aG.aN _).map λp=>(aG.file _ p.2).aN.length).sum=_;rw [Ez,KF _ _ _ (λj=>(aG.file _ j).aN.length),n];have y:((({ M.step.1 with dU:=M.dU++[dw.iZ] }:aG).kL ⟨ByteArray.empty,x.name,M.dU.length⟩).file M.dU.length).aN.length=0:=by
     simp [aG.file,aG.kL,dw.iZ]
    rw [y,aiO];refine Xa (g:=λj=>(aG.file _ j).aN.length) (h:=λj=>(M.file j).aN.length) λp t=>?_;have:=m p t;exact afd
   rw [this];show _<=M.step.1.room;rw [a];exact hu
 ·intro u;unfold aG.append;split;· exact ⟨r,by simp⟩
  rename_i o;split;· exact ⟨r,by simp⟩
  rename_i i hi;split
  ·rename_i l;refine ⟨r,λ_=>⟨u,?_⟩⟩;have:M.zI=M.cO:=by unfold aG.zI;rw [abB o]
   rw [this];omega
  rename_i l;split;· exact ⟨d,by simp⟩
  refine ⟨qO.set ok hd hu a c s3 hi _ ?_,by simp⟩;simp only [dw.do,jQ.on,ajI,auQ,aay];omega
 ·intro _;unfold aG.FC;split;· exact ⟨r,by simp⟩
  split;· exact ⟨r,by simp⟩
  rename_i i hi;split;· exact ⟨r,by simp⟩
  split;· exact ⟨d,by simp⟩
  refine ⟨qO.set ok hd hu a c s3 hi _ ?_,by simp⟩;simp only [dw.do,jQ.on,auT,abA];omega
 ·intro _;unfold aG.kC;split;· exact ⟨r,by simp⟩
  split;· exact ⟨r,by simp⟩
  rename_i i hi;split;· exact ⟨r,by simp⟩
  rename_i hg;split;· exact ⟨d,by simp⟩
  refine ⟨?_,by simp⟩;have f:=yx (by simpa using hg);have v:=ok.jR.ne _ (lZ hi);obtain ⟨z,A⟩:=XK ok.jR.sU hd hi;have Ez:(M.step.1.kL ⟨x.name,x.to,i⟩).aN=qp (jY M.aN x.name) x.to i:=by
   show lY.on _ M.step.1.aN=_;rw [c];unfold lY.on;simp only [abB v,abB f]
  refine ⟨a,?_,?_⟩
  ·unfold xX;rw [Ez];exact ad3 (hd.sublist (auR.map _)) z
  ·have C:=A λj=>(M.file j).aN.length;have B:=P7 (jY M.aN x.name) x.to λj=>(M.file j).aN.length;have:(M.step.1.kL ⟨x.name,x.to,i⟩).cO=((qp (jY M.aN x.name) x.to i).map λp=>(M.file p.2).aN.length).sum:=by
    exact afL
   rw [this,KF _ _ _ (λj=>(M.file j).aN.length)];show _<=M.step.1.room;rw [a];unfold aG.cO at hu;omega
 ·intro _;unfold aG.dA;split;· exact ⟨r,by simp⟩
  split;· exact ⟨r,by simp⟩
  rename_i i hi;split;· exact ⟨d,by simp⟩
  refine ⟨?_,by simp⟩;have v:=ok.jR.ne _ (lZ hi);have Ez:(M.step.1.kL ⟨x.name,ByteArray.empty,0⟩).aN=jY M.aN x.name:=by
   show lY.on ⟨x.name,ByteArray.empty,0⟩ M.step.1.aN=_;rw [c];unfold lY.on;simp only [abB v,auT]
  refine ⟨a,?_,?_⟩
  ·unfold xX;rw [Ez];exact hd.sublist (auR.map _)
  ·have B:=P7 M.aN x.name λj=>(M.file j).aN.length;have:(M.step.1.kL ⟨x.name,ByteArray.empty,0⟩).cO=((jY M.aN x.name).map λp=>(M.file p.2).aN.length).sum:=by
    exact afL
   rw [this];show _<=M.step.1.room;rw [a];unfold aG.cO at hu;omega
 ·intro _;unfold aG.dY;split;· exact ⟨r,by simp⟩
  split;· exact ⟨r,by simp⟩
  rename_i i hi;split;· exact ⟨d,by simp⟩
  refine ⟨qO.set ok hd hu a c s3 hi _ ?_,by simp⟩;simp only [dw.dY];omega
 ·intro _;unfold aG.fU;split;· exact ⟨r,by simp⟩
  split;· exact ⟨d,by simp⟩
  exact ⟨qO.Ej hd hu a c s3,by simp⟩
 ·intro _;unfold aG.En;split;· exact ⟨r,by simp⟩
  split;· exact ⟨r,by simp⟩
  exact ⟨qO.Ej hd hu rfl rfl rfl,by simp⟩
 ·exact λh=>absurd h h8
 ·exact λh=>absurd h h9
 ·intro _;refine ⟨?_,λh=>by simp at h⟩;unfold aG.gW;split;· exact r
  rename_i i hi;split;· exact r
  refine qO.set ok hd hu rfl rfl rfl hi _ ?_;rw [((ok.file i).gW _ _).2,IV];omega
 ·intro _;refine ⟨r,λh=>?_⟩;exfalso;have w:=h;unfold aG.read at w;revert w;split
  ·simp
  split
  ·simp
  simp only;split
  ·simp
  split
  ·simp
  ·simp
def aG.PD (m:aG) (s t:ByteArray) (gB:Bool):aG×Int:=
 if m.off then (m,12)
 else match dN m.aN s with
 |none=>(m,9)
 |some i=>
  if gB=false/\dW t=false then (m,7)
  else if m.step.2=false then (m.step.1,12)
  else (m.step.1.kL ⟨s,if gB then ByteArray.empty else t,i⟩,0)
def aG.arw (D:aG) (l:List Int) (i:Nat) (p:ByteArray×Nat):dw:=(D.file p.2).Jg (bD l (2*i+1)) (bD l (2*i+2))
def aG.aq2 (D:aG) (l:List Int):aG:=
 let ns:=D.vO (MQ (bD l 0) D.waits.length)
 { D with jo:=ns.mapIdx λi p=>(p.1,i),aN:=ns.mapIdx λi p=>(p.1,i),waits:=[],dU:=ns.mapIdx (D.arw l),off:=false,vI:=false,left:=0 }
def aG.ahL (D:aG) (x:AL):aG×(Bs×Int×Bool):=
 if x.kind=0 then ((D.dM x.name).1,[],(D.dM x.name).2,false)
 else if x.kind=1 then ((D.append x.name x.b).1,[],(D.append x.name x.b).2,false)
 else if x.kind=2 then ((D.FC x.name x.n).1,[],(D.FC x.name x.n).2,false)
 else if x.kind=3 then ((D.PD x.name x.to false).1,[],(D.PD x.name x.to false).2,false)
 else if x.kind=4 then ((D.PD x.name ByteArray.empty true).1,[],(D.PD x.name ByteArray.empty true).2,false)
 else if x.kind=5 then ((D.dY x.name).1,[],(D.dY x.name).2,false)
 else if x.kind=6 then (D.fU.1,[],D.fU.2,false)
 else if x.kind=7 then ((D.En x.n).1,[],(D.En x.n).2,false)
 else if x.kind=8 then (D.aq2 x.l,[],0,false)
 else if x.kind=9 then ((D.Iq x.n).1,[],(D.Iq x.n).2,false)
 else if x.kind=10 then ((D.gW x.name x.n (G6 x.m)).1,[],0,(D.gW x.name x.n (G6 x.m)).2)
 else (D,(D.read x.name x.n x.m).1,(D.read x.name x.n x.m).2,false)
def dw.Rt (f:dw):Prop:=∀ c∈f.waits,c.b.length<=16777216
def aG.Rt (m:aG):Prop:=∀ f∈m.dU,f.Rt
end Go.aG
namespace Go.aY
open Go.ay (Bs)
section
variable {V:Type}{x:gy V}{c:Nat}
theorem aby (d:∃ j,c=2^j/\3<=j) (e:x.key.length=32) (a:x.st=0):pK (List.replicate c x):=
 ⟨by rw [ajM];exact d,(λy hy=>by rw [List.eq_of_mem_replicate hy,a];decide),(λy hy=>by rw [List.eq_of_mem_replicate hy];exact e),λi y hy b=>by
  rw [List.eq_of_mem_replicate (abH hy),a]at b;cases b⟩
theorem aaF (hx:x.st=0) (k:Bs) (v:V):¬ oC (List.replicate c x) k v:=by
 rintro ⟨i,y,hy,h1,_⟩;rw [List.eq_of_mem_replicate (abH hy),hx]at h1;cases h1
theorem aaE (hx:x.st=0):oW (List.replicate c x)=0:=by unfold oW;rw [List.countP_replicate,abB (by rw [hx];decide)]
theorem aaG (hx:x.st=0):cO (List.replicate c x)=0:=by unfold cO;rw [List.countP_replicate,abB (by rw [hx];decide)]
theorem apx (hk:x.key.length=32) (hx:x.st=0):(⟨List.replicate 8 x,0,0⟩:Tb V).Ok:=
 ⟨aby ⟨3,rfl,abG 3⟩ hk hx,(aaE hx).symm,(aaG hx).symm,by simp,by simp⟩
theorem apw (hx:x.st=0) (n g:Nat):(⟨List.replicate 8 x,n,g⟩:Tb V).Is (λ_=>none):=λk v=>⟨λh=>absurd h (aaF hx k v),λh=>by cases h⟩
theorem Tb.Is.some {t:Tb V}{m:Bs->Option V} (hm:t.Is m) (ho:t.Ok){k:Bs}{d:Nat} (he:rO t.bG k d){y:gy V} (hy:t.bG[pos k t.bG.length d]?=some y):(y.st=1->m k=some y.val)/\(y.st≠1->m k=none):=by
 refine ⟨λh1=>(hm k _).1 (Nl he hy h1).2,λh1=>?_⟩;cases hmk:m k with
 |none=>rfl
 |some v=>exact absurd ((hm k v).2 hmk) ((Nk ho.dW he hy h1).2 v)
end
structure Bd {V:Type} (t:Tb V) (s':List (gy V)) (N:Nat):Prop where
 dW:pK s'
 oD:∀ k v,oC s' k v↔oC t.bG k v
 nf:oW s'=t.n
 nu:cO s'=t.n
 lo:2*N<=s'.length
 lo8:8<=s'.length
 hi:s'.length=8\/s'.length<4*N
theorem Bd.ok {V:Type}{t:Tb V}{s':List (gy V)} (h:Bd t s' (t.n+1)):(⟨s',t.n,0⟩:Tb V).Ok:=
 ⟨h.dW,h.nf.symm,by rw [h.nu];rfl,by have:=h.lo;simp only;omega,by have:=h.hi;simp only;omega⟩
theorem Bd.is {V:Type}{t:Tb V}{s':List (gy V)}{N:Nat} (h:Bd t s' N){m:Bs->Option V} (hm:t.Is m) (n g:Nat):(⟨s',n,g⟩:Tb V).Is m:=λk v=>(h.oD k v).trans (hm k v)
theorem anh {V:Type}{kP:List (gy V)}{x:gy V}{c:Nat} (b:∃ j,c=2^j/\3<=j) (d:x.key.length=32) (a:x.st=0):iO kP (List.replicate c x) 0:=
 ⟨aby b d a,λk v=>⟨λh=>absurd h (aaF a k v),λh=>by obtain ⟨i,y,hy,_⟩:=h;simp at hy⟩,by rw [aaE a];rfl,by rw [aaG a];rfl⟩
theorem MS:∀ (a b:Bs),Lib.compareBytes a b<0↔a<b
 |[],[]=>by simp [Lib.compareBytes]
 |[],b::bs=>by simp [Lib.compareBytes]
 |a::l,[]=>by simp [Lib.compareBytes]
 |a::l,b::bs=>by
  rw [List.cons_lt_cons_iff,<-MS l bs];rw [show Lib.compareBytes (a::l) (b::bs)=if a<b then -1 else if b<a then 1 else Lib.compareBytes l bs from rfl];by_cases h1:a<b
  ·simp [h1]
  ·rw [abB h1];by_cases h2:b<a
   ·rw [abL h2];constructor
    ·intro h;exact absurd h aU
    ·rintro (h|⟨rfl,_⟩)
     ·exact absurd h h1
     ·exact absurd h2 h1
   ·rw [abB h2];have:a=b:=by
     have h3:¬ a.toNat<b.toNat:=λh=>h1 (UInt8.lt_iff_toNat_lt.2 h);have h4:¬ b.toNat<a.toNat:=λh=>h2 (UInt8.lt_iff_toNat_lt.2 h);exact ak4.1 oQ
    subst this;constructor
    ·intro h;exact .inr ⟨rfl,h⟩
    ·rintro (h|⟨_,h⟩)
     ·exact absurd h h1
     ·exact h
end Go.aY
namespace Go.aB
open Go.aG
theorem aS.ahq {L:aS} (M:aG) (h:L.on=false):L.fA M=((L,M),0):=by
 unfold aS.fA;split
 ·rfl
 ·rw [abB (by rw [h];decide)]
theorem aS.Ok.last {L:aS} (h:L.Ok) (hon:L.on=true):∃ s,L.l.getLast?=some s:=by
 cases hl:L.l.getLast? with
 |none=>exact absurd (ajF.1 hl) (h.on hon)
 |some s=>exact ⟨s,rfl⟩
theorem aS.ahr {L:aS} (M:aG){s:Int×Int} (hl:L.l.getLast?=some s) (h:L.on=true) :
  L.fA M=if (M.dY (name s.1)).2=0 then (({ L with on:=false },(M.dY (name s.1)).1),0) else ((L,(M.dY (name s.1)).1),(M.dY (name s.1)).2):=by
 unfold aS.fA;rw [hl];simp only [h,auT]
theorem aaK (x:ay.aT) (h:(ay.dI x).2=0):(ay.dI x).1≠[]:=by
 unfold ay.dI at *
 split at h
 ·rename_i hc;exact absurd h hc
 ·rename_i hc;rw [abB hc];intro e;have:=aiX List.length e;simp [ay.nK]at this
theorem aS.MC {L:aS}{M:aG}{x:ay.aT} (h:(ay.dI x).2≠0):L.append M x=((L,M),bT.zero,(ay.dI x).2):=by
 unfold aS.append;rw [abL h]
theorem aS.Em {L:aS}{M:aG}{x:ay.aT} (h:(ay.dI x).2=0) (hf:L.fC (ay.dI x).1.length=true):L.append M x=L.grow M (ay.dI x).1:=by
 unfold aS.append;rw [abB (λhh=>hh h),abL hf]
theorem aS.CS {L:aS}{M:aG}{x:ay.aT} (h:(ay.dI x).2=0) (hf:L.fC (ay.dI x).1.length=false):L.append M x=L.begin M (ay.dI x).1:=by
 unfold aS.append;rw [abB (λhh=>hh h),abB (by rw [hf];decide)]
theorem aS.amw {L:aS} (n:Nat) (h:L.on=false):L.fC n=false:=by unfold aS.fC;rw [h];rfl
theorem aS.amx {L:aS}{s:Int×Int} (n:Nat) (h:L.on=true) (hl:L.l.getLast?=some s):L.fC n=decide (s.2+n<=L.limit):=by
 unfold aS.fC;rw [h,hl];rfl
def gY (l:List (Int×Int)) (n:Int):Int:=match l.findIdx? (λs=>s.1==n) with
 |some i=>i
 |none=> -1
theorem amr (L:aS) (n:Int):L.find n=gY L.l n:=rfl
theorem anV {l:List (Int×Int)}{n:Int}{i:Nat}{s:Int×Int} (hs:l[i]?=some s) (hn:s.1=n) (hp:∀ (j:Nat) (t:Int×Int),j<i->l[j]?=some t->t.1≠n):gY l n=i:=by
 unfold gY;have:l.findIdx? (λs=>s.1==n)=some i:=by
  rw [List.findIdx?_eq_some_iff_getElem];obtain ⟨h1,h2⟩:=abM.1 hs;refine ⟨h1,by rw [h2];simpa using hn,λj hj=>?_⟩;have:=hp j _ hj (aaf oQ);simpa using this
 rw [this]
theorem anW {l:List (Int×Int)}{n:Int} (hp:∀ (j:Nat) (t:Int×Int),j<l.length->l[j]?=some t->t.1≠n):gY l n = -1:=by
 unfold gY;have:l.findIdx? (λs=>s.1==n)=none:=by
  rw [List.findIdx?_eq_none_iff];intro t ht;obtain ⟨j,hj,rfl⟩:=aqj ht;have:=hp j _ hj (aaf hj);simpa using this
 rw [this]
def aS.aX (L:aS):List Int:=L.l.map (·.1)
end Go.aB
