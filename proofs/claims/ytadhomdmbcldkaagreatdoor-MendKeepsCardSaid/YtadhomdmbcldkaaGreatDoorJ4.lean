import Derived.Test.YtadhomdmbcldkaaGreatDoorJ3
set_option linter.unusedSimpArgs false
variable {C G:Prop}
open Go.Proofs.Tryz
set_option maxRecDepth 100000
set_option linter.unusedVariables false
set_option maxHeartbeats 128000000
open Go Go.Sl Go.MapKept Go.RowKit
open Go.Proofs.YtadhomdmbcldkaaGreatDoor Go.Proofs.Y
variable {w0 w:World}{R F L L':List aO}{v sv bv dv lv av:Value}{p B b n c m q K sz gn d N:Nat}{k:ay.Bs}{ops:Array Oper}{a:Act}{dst:Option Tmp}{after:Array Edge}{x y:Operand}{T ty:TypeId}{P:Program}{rest:List Oper}{Q:Exit->Act->World->Prop}{cs:Array Value}{M:aG.aG}{s:Int×Int}{α:Type}{xs:List Value}{f:α->List Value}
theorem yF0(h:C:=by (refine Or.inl ⟨by rfl,?_⟩;((intro wq;go_simp);first|done|exact wQ))):C:=h
theorem yG0(h:C:=by first|assumption|exact Ro.op (Ro.cZ _ _)|exact Ro.os aQ):C:=h
theorem yL0(h:C:=by rw [bP,Hxk.o];kernel_rfl):C:=h
theorem yV0(h:C:=by rw [o7];kernel_rfl):C:=h
theorem yW0(h:C:=by rw [abC,o7];kernel_rfl):C:=h
theorem yZ0(h:C:=by rw [abC,AQ.o];kernel_rfl):C:=h
theorem zB0(h:C:=by rw [bP,Hk.o];kernel_rfl):C:=h
theorem zD0(h:C:=by rw [agQ];exact y7 iM x (DK _)):C:=h
theorem zW0(h:C:=by rw [abC,o7];rfl):C:=h
namespace Go.Proofs.Y
open Go.aG
def o9 (xs:List Value) (i:Nat) (vs:List Value):List Value:=xs.take i++(vs++xs.drop (i+vs.length))
theorem Dt (A B vs:List Value) (i:Nat):o9 (A++B) (A.length+i) vs=A++o9 B i vs:=by
 unfold o9;rw [List.take_length_add_append,avC,List.drop_length_add_append,ab6]
theorem aew {xs vs:List Value}{i:Nat} (h:i+vs.length<=xs.length):(o9 xs i vs).length=xs.length:=by
 unfold o9;simp only [aay,abA,abJ];omega
section
variable {o:Nat}{t ty T:Nat}{pos:String}{vs:List Value}{K:Act->World->Prop}{E:Prop}
theorem aeA {cs:Array Value}{i m:Nat} (hx:cs.toList.take m=xs) (hm:m<=cs.size) (hi:i+vs.length<=m):(iK cs i vs).toList.take m=o9 xs i vs:=by
 subst hx;rw [qY _ _ _ oQ];have hl:(cs.toList.take i++vs).length=i+vs.length:=by rw [aay,abA,ahN];omega
 unfold o9;rw [List.take_append,hl,acE oQ,awo,avG oQ,aom,ab6]
theorem aiu (i:Nat) (D:au w0 w L) (E:a.eval x=.pointer (some ⟨b,i,none⟩)) (hy:a.eval y=v) (B:v.cells.toList=vs) (u:vY (aK T sz (.slice (some ⟨b,0,none⟩) n c) xs) (aK T sz (.slice (some ⟨b,0,none⟩) n c) (o9 xs i vs)) L L')
  (hi:i+vs.length<=xs.length) (C:(P.info? ty).map (·.size)=some vs.length) (F:vs.all (·.oneCell')=true)
  (G:∀ w',au w0 w' L'->wpList P ops Q rest (a.put dst undef) w'):wpList P ops Q (⟨dst,.store ty x y,t,pos,after,none⟩::rest) a w:=by
 have d:v.cells.size=vs.length:=by rw [<-B,ahN]
 obtain ⟨s,j,l⟩:=u;have h:=D.perm j;rcases au.nV h with ⟨e,_⟩|⟨z,A,f,cs,e,g,k2,k3,m,k5,o⟩
 ·cases e
 ·cases e;have hlen:xs.length<=cs.size:=by rw [<-k5,abA,ahN];omega
  have hm:n*sz<=cs.size:=abQ (am2 _ k2) k3;refine KX rfl ty x y rfl i v E hy (by rw [d];omega) (by rw [d];exact C) (by rw [<-Array.all_toList,B];exact F) o λw' r=>G w' (au.perm ?_ l.symm);refine au.pV r (by rw [aew hi];exact g) k2 (by rw [pW];exact k3) m ?_;rw [B];exact aeA k5 hm (by rw [<-g];exact hi)
theorem Jj (i:Nat) (D:au w0 w L) (F:a.eval x=.pointer (some ⟨b,i,none⟩)) (hy:a.eval y=v) (B:v.cells.toList=vs) (u:vY (aK T sz (.slice (some ⟨b,0,none⟩) n c) xs) (aK T sz (.slice (some ⟨b,0,none⟩) n c) (o9 xs i vs)) L L')
  (hi:i+vs.length<=xs.length) (C:(P.info? ty).map (·.size)=some vs.length) (G:vs.all (·.oneCell')=true)
  (H:∀ w',au w0 w' L'->K (a.put dst undef) w') :
  if Region.wanted ⟨dst,.store ty x y,t,pos,after,none⟩ (yielded ops a.tmps)=true then Oper.wp P ⟨dst,.store ty x y,t,pos,after,none⟩ a w K Q else E:=by
 have d:v.cells.size=vs.length:=by rw [<-B,ahN]
 obtain ⟨s,j,l⟩:=u;have h:=D.perm j;rcases au.nV h with ⟨e,_⟩|⟨z,A,f,cs,e,g,k2,k3,m,k5,o⟩
 ·cases e
 ·cases e;have hlen:xs.length<=cs.size:=by rw [<-k5,abA,ahN];omega
  have hm:n*sz<=cs.size:=abQ (am2 _ k2) k3;refine qE o F hy (by rw [B]) eu (by rw [d];omega) (by rw [d];exact C) (by rw [B];exact G) λw' r=>H w' (au.perm ?_ l.symm);refine au.pV r (by rw [aew hi];exact g) k2 (by rw [pW];exact k3) m ?_;exact aeA k5 hm (by rw [<-g];exact hi)
end
section
variable {k:Nat}
theorem lK:∀ {l:List α},(∀ x∈l,(f x).length=k)->(l.flatMap f).length=k*l.length
 |[],_=>rfl
 |x::l,h=>by rw [aiN,aay,h x (.head _),lK λy hy=>h y (.tail _ hy),aiT,Nat.mul_succ];omega
theorem PL:∀ {l:List α}{i:Nat}{x:α}{j:Nat}{v:Value},(∀ x∈l,(f x).length=k)->l[i]?=some x->(f x)[j]?=some v->(l.flatMap f)[i*k+j]?=some v
 |[],_,_,_,_,_,h,_=>by cases h
 |y::l,0,x,j,v,hk,h,hj=>by
  obtain rfl:y=x:=by simpa using h
  rw [aiN,Nat.zero_mul,aiO,aiS (abM.1 hj).1];exact hj
 |y::l,i+1,x,j,v,hk,h,hj=>by
  have h0:=hk y (.head _);rw [aiN,Nat.succ_mul,aiP oQ,h0,show i*k+k+j-k=i*k+j by omega];exact PL (λz hz=>hk z (.tail _ hz)) yJ0 hj
theorem Ku:∀ {l:List α}{i:Nat}{x:α},(∀ x∈l,(f x).length=k)->(f x).length=k->i<l.length->(l.set i x).flatMap f=o9 (l.flatMap f) (i*k) (f x)
 |[],_,_,_,_,h=>by simp at h
 |y::l,0,x,hk,hx,h=>by
  have h0:=hk y (.head _);rw [List.set_cons_zero,aiN,aiN];unfold o9;rw [Nat.zero_mul,ajN,ajc,aiO,hx,<-h0,List.drop_left]
 |y::l,i+1,x,hk,hx,h=>by
  have h0:=hk y (.head _);rw [List.set_cons_succ,aiN,aiN,Ku (λz hz=>hk z (.tail _ hz)) hx yJ0,Nat.succ_mul,Nat.add_comm (i*k) k,<-h0,Dt]
theorem agM (n:Nat) (x:α):(List.replicate n x).flatMap f=(List.replicate n (f x)).flatten:=by
 induction n with
 |zero=>rfl
 |succ n ih=>rw [List.replicate_succ,aiN,ih,List.replicate_succ,awz]
end
section
variable {k:Nat}
theorem lV {l:List α}{i:Nat}{x:α} (t:∀ x∈l,(f x).length=k) (h:bK k v (l.flatMap f) w) (hi:l[i]?=some x) (z:0<k) :
  ∃ u off c,v=.slice (some ⟨u,off,none⟩) l.length c/\∀ j y,(f x)[j]?=some y->w.cell? ⟨u,off+i*k+j,none⟩=some y:=by
 obtain ⟨a,n,c,rfl,b,r⟩:=id h;rw [lK t]at b;have e:=t x (abH hi);obtain rfl:n=l.length:=by
  rw [alQ]at b;exact (Nat.eq_of_mul_eq_mul_right z b).symm
 obtain ⟨s,d⟩:∃ y,(f x)[0]?=some y:=⟨_,aaf oQ⟩;have g:=PL t hi d;obtain ⟨u,off,rfl,m⟩:=pq h g;exact ⟨u,off,c,rfl,λj y o=>by rw [avC];exact m _ _ (PL t hi o)⟩
theorem l9 {l:List α} (d:∀ x∈l,(f x).length=k) (h:bK k v (l.flatMap f) w) (e:0<k):∃ a c,v=.slice a l.length c:=by
 obtain ⟨a,n,c,rfl,b,g⟩:=id h;rw [lK d,alQ]at b;exact ⟨a,c,by rw [Nat.eq_of_mul_eq_mul_right e b]⟩
end
theorem Zj (x j:Nat) (hx:x<9223372036854775808) (hj:j<63):bits .and .i64 (x:Int) ((2^j-1:Nat):Int)=((x%2^j:Nat):Int):=by
 have c:2^j<=2^62:=aon aU oQ;have d:(2:Nat)^62=4611686018427387904:=aU;have a:=Nat.two_pow_pos j;have b:(BitVec.ofInt 64 ((2^j-1:Nat):Int)).toNat=2^j-1:=by
  exact af4
 have hn:(BitVec.ofInt 64 x).toNat=x:=by
  exact af4
 show IntKind.i64.wrap ((BitVec.ofInt 64 x &&& BitVec.ofInt 64 ((2^j-1:Nat):Int)).toNat:Nat)=_;rw [BitVec.toNat_and,b,hn,Nat.and_two_pow_sub_one_eq_mod,aiY];omega
theorem U1 (l:Bs) (c:UInt8) (k:Nat) (hl:l.length=k) (hk:k<4):bits .or .u32 ((ay.bD l:Nat):Int) ((c.toNat:Int)*((256^k:Nat):Int))=((ay.bD (l++[c]):Nat):Int):=by
 subst hl;have h1:=ay.uP l;have b:=c.toNat_lt;have a:256^l.length<=256^3:=aon aU oQ;have d:c.toNat*256^l.length<=255*256^3:=aqe oQ a;have f:(256:Nat)^3=16777216:=aU;refine Vx ?_;intro e;rw [e,u32_or_nat _ _ oQ oQ,ay.UW];exact VK
theorem anE (k:Bs) (hk:k.length=32) (j:Nat) (hj:j<40) (h:au w0 w F) :
  Calls prog 213 #[.agg (aI k).toArray,.int .i64 (2^j:Nat)] w (bf λv w'=>v=.int .i64 (aY.uj k (2^j):Nat)/\au w0 w' F):=by
 obtain ⟨c0,a,b,c,t,rfl⟩:∃ c0 a b c t,k=c0::a::b::c::t:=by
  match k,hk with
  |c0::a::b::c::t,_=>exact ⟨c0,a,b,c,t,rfl⟩
 have g:=uQ (show aY.uj (c0::a::b::c::t) (2^j)=ay.bD [c0,a,b,c]%2^j from rfl);have d:=h.alloc (.cells (aI (c0::a::b::c::t)).toArray 34);have r:(w.alloc (.cells (aI (c0::a::b::c::t)).toArray 34)).cell? ⟨w.heap.size,0,none⟩=some (.int .u8 c0.toNat):=d.dD 0 _ rfl;have s:(w.alloc (.cells (aI (c0::a::b::c::t)).toArray 34)).cell? ⟨w.heap.size,1,none⟩=some (.int .u8 a.toNat):=d.dD 1 _ rfl;have u:(w.alloc (.cells (aI (c0::a::b::c::t)).toArray 34)).cell? ⟨w.heap.size,2,none⟩=some (.int .u8 b.toNat):=d.dD 2 _ rfl;have x:(w.alloc (.cells (aI (c0::a::b::c::t)).toArray 34)).cell? ⟨w.heap.size,3,none⟩=some (.int .u8 c.toNat):=d.dD 3 _ rfl;have y:=c0.toNat_lt;have b1:=a.toNat_lt;have b2:=b.toNat_lt;have z:=c.toNat_lt;have A:bits .or .u32 (c0.toNat:Int) ((a.toNat:Int)*256)=((ay.bD [c0,a]:Nat):Int):=by
  have:=U1 [c0] a 1 rfl aU;simpa [ay.bD] using this
 have B:bits .or .u32 ((ay.bD [c0,a]:Nat):Int) ((b.toNat:Int)*65536)=((ay.bD [c0,a,b]:Nat):Int):=U1 [c0,a] b 2 rfl aU;have D:bits .or .u32 ((ay.bD [c0,a,b]:Nat):Int) ((c.toNat:Int)*16777216)=((ay.bD [c0,a,b,c]:Nat):Int):=U1 [c0,a,b] c 3 rfl aU;have hn:=ay.uP [c0,a,b,c];rw [show [c0,a,b,c].length=4 from rfl,show (256:Nat)^4=4294967296 by decide]at hn;have i:(2:Nat)^j<=2^40:=aon aU oQ;have e:(2:Nat)^40=1099511627776:=aU;have f:0<2^j:=Nat.two_pow_pos j;have E:=Zj (ay.bD [c0,a,b,c]) j oQ oQ;generalize ay.bD [c0,a,b,c]=N at *
 generalize l:2^j=C at *
 have m:IntKind.i64.wrap ((C:Int)-1)=((C-1:Nat):Int):=by rw [aiY];omega
 have n:IntKind.i64.wrap (N:Int)=(N:Int):=abR _ oQ;have o:N%C<C:=aqv _ f;clear h hk l i e;go_enter func213,ntmps213;go_wp2_with fail;go_ret;refine ⟨_,rfl,?_,d.drop⟩;rw [g.o,Int.natCast_emod];rfl
section
variable {o:Nat}
variable {t:TypeId}{pos:String}
theorem kQ (c:List Value) (e:a.eval x=.pointer (some ⟨b,o,none⟩)) (f:∀ j v,c[j]?=some v->w.cell? ⟨b,o+j,none⟩=some v)
  {d:TypeDesc} (g:P.underlying ty=some d) (hd:d.isRow=true) (hi:(P.info? ty).map (·.size)=some c.length)
  (h:wpList P ops Q rest (a.put dst (.agg c.toArray)) w):wpList P ops Q (⟨dst,.load ty x,t,pos,after,none⟩::rest) a w:=
 wpList_load_mid rfl ty x rfl b o e c d f g hd hi h
theorem jK (c:Array Value) (d:au w0 w L) (e:a.eval x=.pointer (some ⟨b,0,none⟩)) (hy:a.eval y=.agg c) (f:c.size=cs.size) (u:vY (pt b (.cells cs T (0,0))) (pt b (.cells c T (0,0))) L L')
  (hi:(P.info? ty).map (·.size)=some c.size) (g:c.toList.all (·.oneCell')=true)
  (h:∀ w',au w0 w' L'->wpList P ops Q rest (a.put dst undef) w'):wpList P ops Q (⟨dst,.store ty x y,t,pos,after,none⟩::rest) a w:=
 jI d e hy (vS (by
  show (iK cs 0 c.toList).toList=_;rw [qY _ _ _ (by rw [ahN];omega),ajN,ajc,aiO,aiU (by rw [ahN,ahN];omega),ahB])) u (by show 0+c.size<=cs.size;omega) hi g h
end
section
variable {t:TypeId}{pos:String}{e:ay.aT}{da:Option Addr}{dn dc:Nat}
theorem au3 (c:au w0 w L) (hy:a.eval x=.agg (dR e (.slice da dn dc))) (d:e.key.length=32)
  (f:∀ b w',au w0 w' (pt b (.cells (dR e (.slice da dn dc)) 71 (0,0))::L)->wpList prog ops Q rest (a.put dst (.slice (some ⟨b,0,none⟩) 1 1)) w') :
  wpList prog ops Q (⟨dst,.buildSlice 72 1 #[(0,x)],t,pos,after,none⟩::rest) a w:=
 rJ (je:=64) aC c hy rfl (iw _ _ d) aU f
theorem akq (h:lQ (wpList prog ops Q (⟨dst,.buildSlice 72 1 #[(0,x)],t,pos,after,none⟩::rest) a w)):wpList prog ops Q (⟨dst,.buildSlice 72 1 #[(0,x)],t,pos,after,none⟩::rest) a w:=h.o
end
abbrev OT (q:aB.bT):Value:= .agg #[.int .i64 q.aZ,.int .i64 q.aP,.int .i64 q.size]
theorem Lc:nR prog 115=some (.agg #[.int .i64 0,.int .i64 0,.int .i64 0]):=aC
structure L9 (l:List (Int×Int)) (n cap:Nat) (cs:Array Value):Prop where
 len:l.length=n+1
 le:n+1<=cap
 size:cap*2<=cs.size
 max:cap<=maxLen
 take:cs.toList.take ((n+1)*2)=jg l
theorem atn (l:List (Int×Int)) (s:Int×Int) (z:Int):(jg (l++[s])).set (l.length*2+1) (.int .i64 z)=jg (l++[(s.1,z)]):=by
 rw [Fq,Fq];rw [List.set_append_right _ _ (by rw [qx];omega),qx,show l.length*2+1-2*l.length=1 by omega]
 rfl
theorem att {α:Type} (l:List α) (k i:Nat) (x:α) (h:i<k):(l.set i x).take k=(l.take k).set i x:=by
 rw [List.take_set]
section
variable {x:Value}{L:aB.aS}
theorem WJ (hl:L.l.getLast?=some s) (h:au w0 w (Gf p m L lv++F)) :
  ∃ bk n cap cs,lv=.slice (some ⟨bk,0,none⟩) (n+1) cap/\L9 L.l n cap cs/\cs[n*2]?=some (.int .i64 s.1)/\cs[n*2+1]?=some (.int .i64 s.2) /\
   au w0 w (tq p m L (.slice (some ⟨bk,0,none⟩) (n+1) cap)::pt bk (.cells cs 148 (0,0))::F):=by
 refine ae6 ?_;intro hlt n hl hn h1 h2 hS;rcases hS.nV with ⟨rfl,f,_⟩|⟨b,g,cap,cs,rfl,c,d,i,e,a,j⟩
 ·rw [f]at h1;simp at h1
 ·rw [qx,hn]at c;obtain rfl:g=n+1:=oQ;refine ⟨b,n,cap,cs,rfl,⟨hn,d,i,e,a⟩,?_,?_,j.bZ⟩
  ·rw [alQ];exact qy a h1
  ·rw [alQ];exact qy a h2
theorem WL {b n cap:Nat}{cs:Array Value} (a:L9 L.l n cap cs) (h:au w0 w (pt b (.cells cs 148 (0,0))::R)) :
  au w0 w (aK 148 2 (.slice (some ⟨b,0,none⟩) (n+1) cap) (jg L.l)::R):=
 au.pV h (by rw [qx,a.len];omega) a.le a.size a.max a.take
theorem ath {b n cap:Nat}{cs:Array Value} (c:L.l.getLast?=some s) (a:L9 L.l n cap cs) (z:Int)
  (h:au w0 w (pt b (.cells (iK cs (n*2+1) [.int .i64 z]) 148 (0,0))::R)) :
  au w0 w (aK 148 2 (.slice (some ⟨b,0,none⟩) (n+1) cap) (jg (L.l.dropLast++[(s.1,z)]))::R):=by
 have e:=aB.Oe c;have d:=aB.ac4 c;have hn:=a.len;refine au.pV h ?_ a.le ?_ a.max ?_
 ·rw [qx,aay,ai8];omega
 ·rw [pW];exact a.size
 ·simp only [iK,avS];rw [att _ _ _ _ oQ,a.take,e,List.dropLast_append_cons,show n=L.l.dropLast.length by omega];simp only [List.dropLast_singleton,ahB];exact atn _ _ _
theorem am3 (hl:L.l.getLast?=some s) (hs:0<=s.2/\s.2<=33554432) (hM:M.Ok K) (rY:K<=1099511627776) (hlen:L.l.length<=1048576) (b:Bs) (hbl:b.length<=1073741824) (hr:Ro w0 F (bK 1 bv (aI b)))
  (h:au w0 w (bC p m L::aV m M::F)) :
  Calls prog 176 #[aW p,bv] w (bf λv w'=>v=.tuple #[OT (L.grow M b).2.1,dS (L.grow M b).2.2] /\
   au w0 w' (bC p m (L.grow M b).1.1::aV m (L.grow M b).1.2::F)):=by
 obtain ⟨lv,P⟩:=bC.open h;clear h;obtain ⟨j,n,cap,B,rfl,C,Q,R,o⟩:=WJ hl P;clear P;obtain ⟨ba,bn,bc,rfl,D⟩:=Kt hr (au.ng.2 (o.gZ 3 [] rfl rfl));subst D
 have S:=uQ (show L.grow M b=if (M.append (aB.name s.1) b).2=0 then (({ L with l:=L.l.dropLast++[(s.1,s.2+b.length)] },(M.append (aB.name s.1) b).1),⟨s.1,s.2,b.length⟩,0)
  else ((L,(M.append (aB.name s.1) b).1),aB.bT.zero,(M.append (aB.name s.1) b).2) by unfold aB.aS.grow;rw [hl])
 have hn:=C.len;have z:=uQ C;have W:=uQ hr;have X:=uQ hl;have Hs:=uQ hs;have f:=uQ Q;have E:=uQ R;have Y:=uQ hbl;have Z:n<(n:Int)+1:=oQ;have aa:IntKind.i64.wrap (n:Int)=(n:Int):=by rw [aiY];omega
 have c:IntKind.i64.wrap (s.2+(b.length:Int))=s.2+(b.length:Int):=by rw [aiY];omega
 have G:=uQ c;clear hn C hr hl hs Q R hbl hlen c;go_enter func176,ntmps176;go_wp2_with (refine iR Lc aQ rfl ?_;intro q T g);refine gK [10,11] (λw'=>w'.cell? ⟨p,2,none⟩=some (.slice (some ⟨j,0,none⟩) (n+1) cap)) aC ?_;have H:T.drew.cell? ⟨p,2,none⟩=some (.slice (some ⟨j,0,none⟩) (n+1) cap):=g.drew.bI dh 2 rfl;refine rP 0 ?_ (y:=bV);refine rP 1 ?_ (y:=jF);refine rP 2 ?_ (y:=eY);refine rt 3 (h:=?_);refine rP 4 ?_ (y:=bV);refine rP 5 ?_ (y:=jF);refine rP 6 ?_ (y:=eY);refine rt 7 (h:=?_);refine rP 8 ?_ (y:=(vX aF dX));refine rP 9 ?_ (y:=nT);refine rP 10 ?_ (y:=kX);refine rP 11 ?_ (y:=kR);refine fK aC ?_;clear H;have d:=g.drew;generalize T.drew=U at *
 clear g o;go_wp2_with fail;refine gK [10,11] (λw'=>w'.cell? ⟨p,0,none⟩=some (aW m)/\w'.cell? ⟨j,n*2,none⟩=some (.int .i64 s.1)) aC ?_;have H:U.drew.cell? ⟨p,0,none⟩=some (aW m)/\U.drew.cell? ⟨j,n*2,none⟩=some (.int .i64 s.1):=⟨d.drew.bI dh 0 rfl,d.drew.bI dh _ f.o⟩;refine rP 0 ?_ (y:=bV);refine rP 1 ?_ (y:=jF);refine rP 2 ?_ (y:=eY);refine rt 3 (h:=?_);refine rP 4 ?_ (y:=bV);refine rP 5 ?_ (y:=jF);refine rP 6 ?_ (y:=eY);refine rt 7 (h:=?_);refine rP 9 ?_ (y:=bV);refine dZ 8 aF aC (λK t=>?_);clear H
 (refine yw aC aF ?_)
 refine (Au s.1 d.drew).mono ?_;rintro e w3 ⟨v,rfl,rfl,i⟩;refine t _ _ (.inr (.inl ⟨i.bI dh 0 rfl,i.bI dh _ f.o⟩)) ?_;clear t K;refine dZ 10 aF aC (λK t=>?_)
 (refine Bq aC aF aF aF ?_)
 refine (Ja hM rY (au.pk aQ) _ b yG0).mono ?_;rintro e w4 ⟨v,rfl,rfl,I⟩;refine t _ _ (.inl rfl) ?_;clear t K;refine rP 11 ?_ (y:=kR);refine fK aC ?_;clear i d W;generalize M.append (aB.name s.1) b=r at *
 obtain ⟨M2,V⟩:=r;by_cases A:V=0
 ·subst A;have a:=uQ (S.o.trans (abL rfl));have e1:w4.cell? ⟨j,n*2+1,none⟩=some (.int .i64 s.2):=I.bI dh _ E.o;have u:=z.o.size;have J:=z.o.le;have x:=uQ (show n*2+1+(Value.int .i64 (s.2+(b.length:Int))).cells.size<=B.size by show n*2+1+1<=B.size;omega);have c:=G.o;clear u J;go_wp2_with (refine ave aA ?_);refine ⟨jI aQ aA aA rfl fJ x.o aC aA ?_⟩;intro w5 N
  have e0:w5.cell? ⟨j,n*2,none⟩=some (.int .i64 s.1):=N.bI dh _ (by
   show (B.setIfInBounds (n*2+1) _)[n*2]?=_;rw [avY oQ];exact f.o)
  clear e1 x c;go_wp2_with ((with_reducible refine eG ⟨?_⟩);refine jI aQ aA aF pQ fJ dG aC aA ?_;intro wS o);refine ⟨rfl,_,uT rfl aQ aA dh underlying115 rfl aC,_,rfl,?_,?_⟩
  ·rw [a.o];rfl
  ·rw [a.o];have O:=ath X.o z.o _ (au.pk o);exact bC.oO (au.sb O)
 ·have ab:(V==0)=false:=alE A;have a:=uQ (S.o.trans (abB A));clear A;go_wp2_with ((with_reducible refine eG ⟨?_⟩);refine jI aQ aA aF pQ fJ dG aC aA ?_;intro wS o);refine ⟨rfl,_,uT rfl aQ aA dh underlying115 rfl aC,_,rfl,?_,?_⟩
  ·rw [a.o];rfl
  ·rw [a.o];have O:=WL z.o (au.pk o);exact bC.oO (au.sb O)
end
section
variable {x:Value}{L:aB.aS}
theorem atx (hL:L.Ok) (hM:M.Ok K) (h:au w0 w (bC p m L::aV m M::F)) :
  Calls prog 225 #[aW p] w (bf λv w'=>v=dS (L.fA M).2/\au w0 w' (bC p m (L.fA M).1.1::aV m (L.fA M).1.2::F)):=by
 cases hon:L.on
 ·obtain ⟨lv,i⟩:=bC.open h;refine (atu hon i).mono ?_;rintro e O ⟨v,rfl,rfl,rfl⟩;rw [aB.aS.ahq M hon];exact ⟨_,rfl,rfl,h⟩
 ·obtain ⟨s,j⟩:=hL.last hon;obtain ⟨lv,i⟩:=bC.open h;clear h;have d:=hL.len;obtain ⟨l,n,cap,P,rfl,t,A,D,b⟩:=WJ j i;clear i D;have hn:=t.len;have B:=uQ (aB.aS.ahr M j hon);have C:=uQ t;have Q:=uQ j;have f:=uQ A;have E:n<(n:Int)+1:=oQ;have G:IntKind.i64.wrap (n:Int)=(n:Int):=by rw [aiY];omega
  have H:w.cell? ⟨p,3,none⟩=some (.bool true):=b.bI dh 3 (by rw [<-hon];rfl);clear hn t j A d hon;go_enter func225,ntmps225;go_wp2_with fail;refine gK [18,19] (λw'=>w'.cell? ⟨p,0,none⟩=some (aW m)/\w'.cell? ⟨p,2,none⟩=some (.slice (some ⟨l,0,none⟩) (n+1) cap)/\w'.cell? ⟨l,n*2,none⟩=some (.int .i64 s.1)) aC ?_;have I:w.drew.cell? ⟨p,0,none⟩=some (aW m)/\w.drew.cell? ⟨p,2,none⟩=some (.slice (some ⟨l,0,none⟩) (n+1) cap)/\w.drew.cell? ⟨l,n*2,none⟩=some (.int .i64 s.1):=⟨b.drew.bI dh 0 rfl,b.drew.bI dh 2 rfl,b.drew.bI dh _ f.o⟩;refine rP 0 ?_ (y:=bV);refine rP 1 ?_ (y:=jF);refine rP 2 ?_ (y:=eY);refine rt 3 (h:=?_);refine rP 4 ?_ (y:=bV);refine rP 5 ?_ (y:=jF);refine rP 6 ?_ (y:=eY);refine rt 7 (h:=?_);refine rP 8 ?_ (y:=bV);refine rP 9 ?_ (y:=jF);refine rP 10 ?_ (y:=eY);refine rt 11 (h:=?_);refine rP 12 ?_ (y:=(vX aF dX))
  refine rP 13 ?_ (y:=nT);refine rP 14 ?_ (y:=kX);refine rP 15 ?_ (y:=eY);refine rt 16 (h:=?_);clear I H;refine dZ 17 aF aC (λK g=>?_)
  (refine yw aC aF ?_)
  refine (Au s.1 b.drew).mono ?_;rintro e R ⟨v,rfl,rfl,c⟩;refine g _ _ (.inr (.inl ⟨c.bI dh 0 rfl,c.bI dh 2 rfl,c.bI dh _ f.o⟩)) ?_;clear g K;refine dZ 18 aF aC (λK g=>?_)
  (refine kM aC aF aF ?_)
  refine (Qb hM (au.pk aQ) _).mono ?_;rintro e S ⟨v,rfl,rfl,u⟩;refine g _ _ (.inl rfl) ?_;clear g K;refine rP 19 ?_ (y:=kR);refine fK aC ?_;clear c b;generalize M.dY (aB.name s.1)=r at *
  obtain ⟨T,x⟩:=r;by_cases o:x=0
  ·subst o;have a:=uQ (B.o.trans (abL rfl));go_wp2_with ((with_reducible refine eG ⟨?_⟩);refine jI aQ aA aF pQ fJ dG aC aA ?_;intro J b);go_ret;refine ⟨dS 0,rfl,by rw [a.o],?_⟩;rw [a.o];have z:=WL C.o (au.pk b);exact bC.oO (au.sb z)
  ·have N:(x==0)=false:=alE o;have a:=uQ (B.o.trans (abB o));clear o;go_wp2_with ((with_reducible refine eG ⟨?_⟩);refine jI aQ aA aF pQ fJ dG aC aA ?_;intro J b);go_ret;refine ⟨dS x,rfl,by rw [a.o],?_⟩;rw [a.o];have z:=WL C.o (au.pk u);exact bC.oO (au.sb z)
end
theorem adG (z:Array Value) (h:0<z.size):∀ n,(madeCells z (n*z.size)).toList=(List.replicate n z.toList).flatten
 |0=>by simp [madeCells]
 |n+1=>by
  have ih:=adG z h n;have hl:(madeCells z ((n+1)*z.size)).toList=(List.range ((n+1)*z.size)).map (z[· % z.size]!):=by unfold madeCells;simp
  have hl0:(madeCells z (n*z.size)).toList=(List.range (n*z.size)).map (z[· % z.size]!):=by unfold madeCells;simp
  rw [hl0]at ih;rw [hl,Nat.succ_mul,List.range_add,acy,ih,List.replicate_succ',List.flatten_append]
  congr 1
  rw [ajr];simp only [awz,List.flatten_nil,ahB];refine List.ext_getElem yD0 λi h1 h2=>?_;have hi:i<z.size:=by simpa using h1
  simp only [List.getElem_map,List.getElem_range,Function.comp];rw [alQ n,Nat.mul_add_mod,auE hi,getElem!_pos z i hi,Array.getElem_toList]
section
variable {o:Nat}{t ty T e je:Nat}{pos:String}{zs:List Value}
theorem Zu (h:lQ (wpList P ops Q (⟨dst,.makeSlice ty x y,t,pos,after,none⟩::rest) a w)):wpList P ops Q (⟨dst,.makeSlice ty x y,t,pos,after,none⟩::rest) a w:=h.o
theorem aip (B:vZ P ty e sz je=true) (v:nR P e=some (.agg zs.toArray)) (C:au w0 w L) (D:a.eval x=.int .i64 n) (hy:a.eval y=.int .i64 n) (E:je*n<=281474976710656) (A:n<=9223372036854775807)
  (F:∀ b w',au w0 w' (aK e sz (.slice (some ⟨b,0,none⟩) n n) (List.replicate n zs).flatten::L)->wpList P ops Q rest (a.put dst (.slice (some ⟨b,0,none⟩) n n)) w') :
  wpList P ops Q (⟨dst,.makeSlice ty x y,t,pos,after,none⟩::rest) a w:=by
 obtain ⟨m,i,z,hi,d,j,o,r,u⟩:=CQ B;have f:z=.agg zs.toArray:=by
  unfold nR at v;rw [hi]at v;simp only [Option.bind_some]at v;rw [d]at v;exact ajH v
 subst f;have c:zs.length=sz:=by rw [<-abC];exact r
 have l:=run_make (P:=P) w ty e i (.agg zs.toArray) m hi d .i64 .i64 n n oQ (avf _) (by rw [o,<-Int.natCast_mul];omega) oQ;simp only [Int.toNat_natCast]at l;have s:=C.alloc (.cells (madeCells (Value.agg zs.toArray).cells (n*i.size)) e);refine ajs rfl λ_ g=>?_;unfold Oper.wp execOp;simp only [D,hy,l,aii,aiV,acz];refine g _ _ (F _ _ ?_);have A:=adG zs.toArray (by rw [abC];omega) n;rw [abC,c]at A;refine au.pV s (by rw [List.length_flatten,List.map_replicate,List.sum_replicate_nat,c]) (abG _) (by rw [size_madeCells,j];exact abG _) yT0 ?_;rw [j];show (madeCells zs.toArray (n*sz)).toList.take (n*sz)=_;rw [A,acE (by rw [List.length_flatten,List.map_replicate,List.sum_replicate_nat,c];exact abG _)]
end
theorem Ei (b o j:Nat):(⟨b,o,none⟩:Addr).add j=⟨b,o+j,none⟩:=by unfold Addr.add;split <;> simp_all
theorem ag2 {l:ay.Bs} (h:bK 1 v (aI l) w):(Extern.Bytes.bytesOf v).run prog w=.ok ⟨l.toArray⟩ w:=by
 obtain ⟨a,n,c,rfl,i,m⟩:=h;rw [bP,aiR]at i;subst i;cases a with
 |none=>
  obtain rfl:l=[]:=by
   cases l with
   |nil=>rfl
   |cons d l=>obtain ⟨b,f,_⟩:=m 0 _ rfl;cases f
  rfl
 |some r=>
  have:=Lib.run_loadBytesX (P:=prog) w (l.map λc=>(c.toNat:Int)) r .empty (λj x o=>by
   rw [ab4]at o;obtain ⟨s,g,rfl⟩:=amV.1 o;have t:(aI l)[j]?=some (.int .u8 s.toNat):=by unfold aI;rw [ab4,g];rfl
   obtain ⟨b,f,u⟩:=m _ _ t;cases f;exact u)
  rw [abl]at this;simp only [Extern.Bytes.bytesOf,this];have e:Lib.bytesOf (l.map λc=>(c.toNat:Int))=l:=by
   unfold Lib.bytesOf;rw [ajr]
   conv=>rhs;rw [<-List.map_id l]
   exact anP λc _=>by simp
  rw [e];show Result.ok ({ data:=(#[]:Array UInt8)++l.toArray }:ByteArray) w=_;rw [Array.empty_append]
theorem asy {x y:ay.Bs} (h1:bK 1 av (aI x) w) (h2:bK 1 bv (aI y) w):(Extern.BytealgCompare.compare #[av,bv]).run prog w=.ok (.int .i64 (Lib.compareBytes x y)) w:=by
 change Sem.run prog (do pure (goInt (Extern.BytealgCompare.cmp (<-Extern.Bytes.bytesOf av) (<-Extern.Bytes.bytesOf bv)))) w=_;simp only [aii,aiV,ag2 h1,ag2 h2,Result.andThen];rw [Lib.cmp_eq]
 rfl
theorem ZB (x y:ay.Bs) (h1:bK 1 av (aI x) w) (h2:bK 1 bv (aI y) w) :
  Calls prog 212 #[av,bv] w λe w'=>e=.returned (.int .i64 (Lib.compareBytes x y))/\w'=w:=by
 have hr:=asy h1 h2;generalize Lib.compareBytes x y=r at *
 clear h1 h2
 go_in
 go_wp2;rw [run_callFunc_extern func248 aC aC aC aC,hr];simp only [Result.andThen];rw [Oper.upon_value];go_wp2;go_ret;exact ⟨rfl,rfl⟩
open Go Go.Sl Go.aG Go.MapKept Go.RowKit Go.Sort
section
variable {α:Type} [Inhabited α] {enc:α->List Value}{k:Nat}
theorem amB (h:∀ x,(enc x).length=k) (j:0<k) (d:Array α):(flatK enc k d).toList=d.toList.flatMap enc:=by
 have f:(d.toList.flatMap enc).length=k*d.toList.length:=lK λx _=>h x;refine List.ext_getElem (by rw [f,ahN,size_flatK,ahN,alQ]) λt b g=>?_;have a:t<d.size*k:=by rw [ahN,size_flatK]at b;exact b
 have hi:=Nat.div_lt_of_lt_mul (by rw [alQ];exact a);have i:d.toList[t/k]?=some d[t/k]! := by
  rw [anO,ao1 hi,getElem!_pos d _ hi]
 have c:t%k<(enc d[t/k]!).length:=by rw [h];exact aqv _ j
 have e:=PL (λx _=>h x) i (aaf c);rw [show t/k*k+t%k=t by rw [alQ];exact Nat.div_add_mod t k,aaf g]at e;rw [ajH e,Array.getElem_toList,<-getElem!_pos (flatK enc k d) t (by rw [size_flatK];exact a),get_flatK _ _ _ _ a];exact getElem!_pos (enc d[t/k]!) (t%k) c
end
section
variable {g:Nat}{os:Array Obj}
theorem anp {fr:Nat×Nat} (d:Array Value) (hb:w.heap[g]?=some (.cells cs T fr)):(grow (putRow id (Sort.ahead w n) g 0 d) os).heap[g]?=some (.cells (putCells id 0 d cs) T fr):=by
 have hg:=(aol.1 hb).1;rw [heap_grow_old _ _ (by simpa using hg)];simp [putRow,mapBlock,Sort.ahead,avx,hb,onCells]
theorem am5 (d:Array Value):w.grownBy (grow (putRow id (Sort.ahead w n) g 0 d) os) (some g):=by
 refine ⟨rfl,rfl,rfl,by simp,λk hk hne=>?_⟩;rw [heap_grow_old _ _ (by simpa using hk)];have:g≠k:=λe=>hne (by rw [e]);simp [putRow,mapBlock,Sort.ahead,avx,this]
theorem aur (d:Array Value) (h:d.size<=cs.size):(putCells id 0 d cs).toList.take d.size=d.toList:=by
 apply awf;intro j;by_cases hj:j<d.size
 ·rw [avD hj,anO];simp [putCells,hj,show j<cs.size by omega]
 ·rw [List.getElem?_take_eq_none oQ,avA yO0]
theorem ata (hp:au w0 w (pt g (.cells cs T (0,0))::R)) (d:Array Value):au w0 (grow (putRow id (Sort.ahead w n) g 0 d) os) (pt g (.cells (putCells id 0 d cs) T (0,0))::R):=by
 have hg:=am5 (w:=w) (g:=g) (n:=n) (os:=os) d;exact hp.jc hg.os hg.tape hg.output hg.size (anp d hp.at) (λi hi hlt=>hg.block i hlt (by simpa using hi))
theorem anD {d:Array Value} (hb:w.heap[g]?=some (.cells cs T (0,0))) (ht:cs.toList.take d.size=d.toList):Holds id w g 0 d:=by
 intro j hj;refine ⟨?_,by simp [World.frozen?,hb]⟩;have h1:(cs.toList.take d.size)[j]?=d.toList[j]?:=by rw [ht]
 rw [avD hj]at h1;simp only [World.cell?,hb,aiO];simp only [Option.isSome_none,ajI,auQ];rw [<-anO,h1,anO,ao1 hj,getElem!_pos d j hj]
 rfl
end
end Go.Proofs.Y
namespace Go.aY
open Go.ay (Bs)
open Go.Sort
theorem aua {V:Type} (key:V->Bs):SWO (Go.Proofs.ltOf λx y=>Lib.compareBytes (key x) (key y)):=by
 have e:∀ x y,Go.Proofs.ltOf (λx y=>Lib.compareBytes (key x) (key y)) x y=decide (key x<key y):=λx y=>by
  unfold Go.Proofs.ltOf;rw [atd,ad2,ad2];exact MS _ _
 refine ⟨λx=>?_,λx y z=>?_,λx y z=>?_⟩
 ·rw [e,ai9];exact avR _
 ·rw [e,e,e,ad2,ad2,ad2];exact awl
 ·rw [e,e,e,ai9,ai9,ai9];intro h1 h2 h3;rcases Jd (key x) (key y) with q|q|q
  ·exact h1 q
  ·exact h2 (q ▸ h3)
  ·rcases Jd (key y) (key z) with p|p|p
   ·exact h2 p
   ·exact avR _ (awl q (p ▸ h3))
   ·exact avR _ (awl (awl h3 p) q)
theorem atM {V:Type} [Inhabited V] {key:V->Bs}{d n:Array V} (o:PermIn 0 d.size d n) (r:SortedIn (Go.Proofs.ltOf λx y=>Lib.compareBytes (key x) (key y)) 0 d.size n) :
  n.toList.Perm d.toList/\n.toList.Pairwise λa b=>¬ key b<key a:=by
 obtain ⟨l,_,m⟩:=o;constructor
 ·have e:∀ a:Array V,a.extract 0 a.size=a:=λa=>by simp
  have c:=m;rw [e d,<-l,e n]at c;exact c
 ·rw [ao3];intro i j hi g f;rw [ahN]at hi g;have:=r i j (acn _) f oQ;rw [getElem!_pos n i hi,getElem!_pos n j g]at this;unfold Go.Proofs.ltOf at this;rw [ai9,MS]at this;simpa using this
theorem adp {V:Type}{s l:List (gy V)}{m:Bs->Option V} (g:pK s) (z:∀ k v,oC s k v↔m k=some v) (p:l.Perm (s.filter λx=>decide (x.st=1))) (A:l.Pairwise λa b=>¬ b.key<a.key) :
  kE m (l.map λx=>(x.key,x.val))/\∀ x∈l,x.st=1/\x.key.length=32:=by
 have c:∀ x,x∈l↔x∈s/\x.st=1:=λx=>by rw [p.mem_iff,ai4,ad2]
 have f:l.Pairwise λa b=>a.key≠b.key:=by
  have n:(s.filter λx=>decide (x.st=1)).Pairwise λa b=>a.key≠b.key:=by
   rw [List.pairwise_filter,ao3];intro i j hi o r t u w;have:=g.yS (aaf hi) (aaf o) (by simpa using t) (by simpa using u) w;omega
  exact (p.pairwise_iff (λ{a b} h=>Ne.symm h)).2 n
 refine ⟨⟨?_,λk v=>?_⟩,λx d=>⟨((c x).1 d).2,g.key x ((c x).1 d).1⟩⟩
 ·rw [akC];refine (A.and f).imp λ{a b} h=>?_;rcases Jd a.key b.key with q|q|q
  ·exact q
  ·exact absurd q h.2
  ·exact absurd q h.1
 ·rw [<-z,abI];constructor
  ·rintro ⟨x,d,e⟩;have⟨a,b⟩:=(c x).1 d;have⟨i,hi,y⟩:=aqj a;cases e;exact ⟨i,x,by rw [aaf hi,y],b,rfl,rfl⟩
  ·rintro ⟨i,x,hi,a,rfl,rfl⟩;exact ⟨x,(c x).2 ⟨abH hi,a⟩,rfl⟩
end Go.aY
namespace Go
open Go
theorem afh(h:C:=by
 go_wp2_with (first|((with_reducible refine jy ⟨?_⟩);refine jB aQ aF aF ?_;intro bB wB hB)|(with_reducible apply jd));go_ret;exact ⟨_,rfl,bB,rfl,hB⟩):C:=h
theorem afJ(h:C:=by
 intro i s hs;obtain ⟨h1,h2⟩:=PY _ _ _ hs;rw [alQ i 2];exact ⟨qy htk h1,qy htk h2⟩):C:=h
theorem VA(h:C:=by
 show some (1,32)=some (1,(aI k).toArray.size);rw [hbk]):C:=h
theorem afY(h:C:=by
 show LeavesInM Fence.wide 0 P fn a.tmps K a.defers .returning w;rw [ha];exact aoI h hv hK):C:=h
end Go
namespace Go.Proofs.Y
open Go.aG
section
variable {x:Value}{L:aB.aS}
theorem amq (s:Int×Int) (n:Int) (h:au w0 w F) (hq:Ro w0 F λw=>w.cell? ⟨q,0,none⟩=some (.int .i64 n)) :
  Calls prog 136 #[.agg #[.int .i64 s.1,.int .i64 s.2],aW q] w (bf λv w'=>v=.bool (s.1==n)/\au w0 w' F):=by
 go_in
 go_wp2_with (first|(((with_reducible refine jy ⟨?_⟩);refine jB aQ aF aF ?_;intro bB wB hB);have c0:=hq _ hB.drop)|((with_reducible refine dH ⟨?_⟩);refine jC aQ aA dh dG aF aC ?_));go_ret;exact ⟨_,rfl,rfl,hB.drop⟩
theorem anX (l:List (Int×Int)) (n:Int) (hln:l.length<=1048576) (h:au w0 w (aK 148 2 lv (jg l)::F)) (hq:Ro w0 F λw=>w.cell? ⟨q,0,none⟩=some (.int .i64 n)) :
  Calls prog 135 #[lv,.func (.func 136) #[] #[aW q]] w (bf λv w'=>v=.int .i64 (aB.gY l n)/\au w0 w' (aK 148 2 lv (jg l)::F)):=by
 rcases h.nV with ⟨rfl,hx,hF⟩|⟨b,n',cap,cs,rfl,hll,hn',hc,hcm,htk,hp⟩
 ·have hl:l=[]:=by
   cases l with
   |nil=>rfl
   |cons a l=>simp [jg]at hx
  subst hl;go_enter func135,ntmps135;go_wp2_with fail
  go_loopg [8] 0 (λg iq wr=>iq=.int .i64 0/\wr=w)
  case atStart=>exact ⟨rfl,rfl⟩
  case round=>
   obtain ⟨rfl,rfl⟩:=hrel;go_wp2;go_ret;exact ⟨_,rfl,rfl,h⟩
 ·rw [qx]at hll;obtain rfl:n'=l.length:=oQ;have hcl:∀ (i:Nat) (s:Int×Int),l[i]?=some s->cs[i*2]?=some (.int .i64 s.1)/\cs[i*2+1]?=some (.int .i64 s.2):=by
   exact afJ
  have oI:=uQ hcl;have Yw:=uQ (show ∀ wr,au w0 wr (pt b (.cells cs 148 (0,0))::F)->au w0 wr (aK 148 2 (.slice (some ⟨b,0,none⟩) l.length cap) (jg l)::F) from λwr hS=>au.pV hS (by rw [qx];omega) hn' hc hcm htk);have Hq:=uQ hq;clear hcl hn' hc hcm htk h hq hll;go_enter func135,ntmps135;go_wp2_with fail
  go_loopg [8] l.length (λg iq wr=>∃ i:Nat,g=l.length-i/\i<=l.length/\iq=.int .i64 i/\au w0 wr (pt b (.cells cs 148 (0,0))::F)/\Hid (∀ (j:Nat) (t:Int×Int),j<i->l[j]?=some t->t.1≠n))
  case atStart=>exact ⟨0,rfl,acn _,rfl,hp,uQ λj t hj=>absurd hj (Nat.not_lt_zero j)⟩
  case round=>
   obtain ⟨i,rfl,hi,rfl,hS,Hp⟩:=hrel;clear hp;by_cases hlt:i<l.length
   ·obtain ⟨s,hs⟩:∃ s,l[i]?=some s:=⟨_,aaf hlt⟩;obtain ⟨d0,d1⟩:=oI.o i s hs;have Hs:=uQ hs;have Hd0:=uQ d0;have Hd1:=uQ d1;have dP:=uQ hlt;have hic:(i:Int)<(l.length:Int):=oQ;have hwi:=EN (i:=i);clear hs d0 d1 hlt;have hfn:=amq (q:=q) s n hS (Ro.os Hq.o)
    go_wp2_with ((with_reducible refine dH ⟨?_⟩);refine IU (b:=b) (o:=i*2) [.int .i64 s.1,.int .i64 s.2] aQ aA dh (λj v hj=>by
     rcases j with _|_|j
     ·cases hj;exact Hd0.o
     ·cases hj;exact Hd1.o
     ·simp at hj) underlying148 rfl aC ?_)
    refine hfn.mono ?_;rintro e w2 ⟨v,rfl,rfl,hS2⟩;clear hfn hS;by_cases hsn:s.1=n
    ·have hsb:(s.1==n)=true:=by simpa using hsn
     have iT:=uQ (aB.anV Hs.o hsn Hp.o);clear hsn;go_wp2;go_ret;exact ⟨.int .i64 i,rfl,by rw [iT.o],Yw.o _ hS2⟩
    ·have hsb:(s.1==n)=false:=by simpa using hsn
     have Q7:=uQ (show ∀ (j:Nat) (t:Int×Int),j<i+1->l[j]?=some t->t.1≠n by
      intro j t hj ht;by_cases hji:j<i
      ·exact Hp.o j t hji ht
      ·obtain rfl:j=i:=oQ;rw [Hs.o]at ht;cases ht;exact hsn)
     clear hsn Hp;go_wp2
     go_roundg (l.length-(i+1))
     case measure=>have:=dP.o;omega
     case rel=>exact ⟨i+1,rfl,aiW dP.o,by first|rfl|go_num,hS2,Q7⟩
   ·obtain rfl:i=l.length:=oQ;have hic:¬ (l.length:Int)<(l.length:Int):=oQ;have iT:=uQ (aB.anW Hp.o);clear hi hlt Hp;go_wp2;go_ret;exact ⟨.int .i64 (-1),rfl,by rw [iT.o],Yw.o _ hS⟩
theorem JK (hL:L.Ok) (n:Int) (h:au w0 w (bC p m L::F)) :
  Calls prog 70 #[aW p,.int .i64 n] w (bf λv w'=>v=.int .i64 (L.find n)/\au w0 w' (bC p m L::F)):=by
 obtain ⟨lv,c⟩:=bC.xJ h;have a:=hL.len;rw [aB.amr]
 go_in
 go_wp2_with ((with_reducible refine jy ⟨?_⟩);refine jB aQ aF aF ?_;intro g i d);refine (Aj (au.pk aQ)).mono ?_;rintro e j ⟨v,rfl,rfl,rfl⟩;go_wp2_with ((with_reducible refine dH ⟨?_⟩);refine jC aQ aA dh dG aF aC ?_);refine (anX L.l n a (au.pk aQ) (λw f=>f.bI dh 0 rfl)).mono ?_;rintro e o ⟨v,rfl,rfl,b⟩;go_wp2;go_ret;exact ⟨_,rfl,rfl,bC.oO (au.sb b)⟩
theorem ao0 (hM:M.Ok K) (h:au w0 w (bC p m L::aV m M::F)) :
  Calls prog 122 #[aW p] w (bf λv w'=>v=dS M.fU.2/\au w0 w' (bC p m L::aV m M.fU.1::F)):=by
 obtain ⟨lv,hR⟩:=bC.xJ h;clear h
 go_in
 go_wp2_with fail;refine (Aj (au.pk aQ)).mono ?_;rintro e w2 ⟨v,rfl,rfl,rfl⟩;go_wp2_with ((with_reducible refine dH ⟨?_⟩);refine jC aQ aA dh dG aF aC ?_);refine (KG hM (au.pk aQ)).mono ?_;rintro e w3 ⟨v,rfl,rfl,hS3⟩;go_wp2;go_ret;exact ⟨_,rfl,rfl,bC.oO (au.sb hS3)⟩
theorem Nr (n:Int):(L.at n=none/\L.find n = -1)\/∃ i,L.at n=some i/\L.find n=i:=by
 unfold aB.aS.find;cases L.at n with
 |none=>exact .inl ⟨rfl,rfl⟩
 |some i=>exact .inr ⟨i,rfl,rfl⟩
theorem aoZ (hL:L.Ok) (n:Int) (h:au w0 w (bC p m L::F)) :
  Calls prog 192 #[aW p,.int .i64 n] w (bf λv w'=>v=.int .i64 (L.size n)/\au w0 w' (bC p m L::F)):=by
 have hf:=JK hL n h;rcases Nr n with ⟨a,c⟩|⟨i,a,c⟩
 ·have iT:=uQ (show L.size n=0 by unfold aB.aS.size;rw [a]);rw [c]at hf
  go_in
  go_wp2_with fail;refine hf.mono ?_;rintro e u ⟨v,rfl,rfl,hS2⟩;go_wp2;go_ret;rw [iT.o];exact ⟨_,rfl,rfl,hS2⟩
 ·rw [c]at hf;obtain ⟨g,s,j,o⟩:=aB.aS.MI a;have iT:=uQ (show L.size n=s.2 by unfold aB.aS.size;rw [a];simp only;rw [abY,j];rfl);have z:(0:Int)<=i:=oQ;have A:i<L.l.length:=oQ;have hd:decide (i<0)=false:=aes oQ
  go_in
  go_wp2_with fail;refine hf.mono ?_;rintro e u ⟨v,rfl,rfl,hS2⟩;obtain ⟨lv,B⟩:=bC.xJ hS2;rcases (B.pk).nV with ⟨G,C,H⟩|⟨b,D,cap,I,rfl,d,r,E,t,f,x⟩
  ·exfalso;have:=(PY _ _ _ j).1;rw [C]at this;simp at this
  ·rw [qx]at d;obtain rfl:D=L.l.length:=oQ;have J:u.cell? ⟨b,i*2+1,none⟩=some (.int .i64 s.2):=by
    have:=qy f (PY _ _ _ j).2;rw [alQ 2 i]at this;exact x.bI dh _ this
   go_wp2_with ((with_reducible refine dH ⟨?_⟩);refine jC aQ aA dh dG aF aC ?_);go_ret;rw [iT.o];exact ⟨_,rfl,rfl,hS2⟩
theorem Og (hL:L.Ok) (hM:M.Ok K) (n:Int) (h:au w0 w (bC p m L::aV m M::F)) :
  Calls prog 22 #[aW p,.int .i64 n] w (bf λv w'=>∃ bv,v=.tuple #[bv,dS (L.bytes M n).2]/\au w0 w' (cZ bv (L.bytes M n).1::bC p m L::aV m M::F)):=by
 obtain ⟨lv,d⟩:=bC.xJ h;have b:=Aj d;have hf:=JK hL n h;rcases Nr n with ⟨f,g⟩|⟨i,f,g⟩
 ·have a:=uQ (show L.bytes M n=([],9) by unfold aB.aS.bytes;rw [f]);rw [g]at hf;clear f g hL h d
  go_in
  go_wp2_with fail;refine b.mono ?_;rintro e o ⟨v,rfl,rfl,rfl⟩;clear b;go_wp2_with fail;refine hf.mono ?_;rintro e o ⟨v,rfl,rfl,c⟩;clear hf;go_wp2
  go_ret2
  rw [a.o];exact ⟨_,rfl,.slice none 0 0,rfl,au.iW.2 c⟩
 ·rw [g]at hf;have a:=uQ (show L.bytes M n=M.all (aB.name n) by unfold aB.aS.bytes;rw [f]);have s:(0:Int)<=i:=oQ;have hd:decide (i<0)=false:=aes oQ;clear f g hL h d lv
  go_in
  go_wp2_with fail;refine b.mono ?_;rintro e o ⟨v,rfl,rfl,rfl⟩;clear b;go_wp2_with fail;refine hf.mono ?_;rintro e o ⟨v,rfl,rfl,c⟩;clear hf;obtain ⟨lv,d⟩:=bC.xJ c;clear c;go_wp2_with fail;refine gK [6,7,8,9,10] (λw'=>w'.cell? ⟨p,0,none⟩=some (aW m)) aC ?_;have t:o.drew.cell? ⟨p,0,none⟩=some (aW m):=d.drew.bI dh 0 rfl;refine rP 0 ?_ (y:=bV);refine rP 1 ?_ (y:=jF);refine rP 2 ?_ (y:=eY);refine rt 3 (h:=?_);refine rP 4 ?_ (y:=bV);clear t;refine dZ 5 aF aC (λK j=>?_)
  (refine yw aC aF ?_)
  refine (Au n d.drew).mono ?_;rintro e u ⟨v,rfl,rfl,l⟩;refine j _ _ (.inr (.inl (l.bI dh 0 rfl))) ?_;clear j K d;refine dZ 6 aF aC (λK j=>?_)
  (refine kM aC aF aF ?_)
  refine (Md hM (au.pk aQ) _).mono ?_;rintro e x ⟨v,rfl,bv,rfl,r⟩;refine j _ _ (.inl rfl) ?_;clear j K l;refine rP 7 ?_ (y:=(lX aF dX));refine rP 8 ?_ (y:=(lX aF dX));refine rP 9 ?_ (y:=kR);refine rP 10 ?_ (y:=kR);refine fK aC ?_;go_wp2
  go_ret2
  rw [a.o];exact ⟨_,rfl,bv,rfl,au.sub (bC.oO (r.sb)) oG⟩
end
theorem aiH:nR prog 148=some (.agg #[.int .i64 0,.int .i64 0]):=aC
section
variable {x:Value}{L:aB.aS}
theorem an7 (l k:List Int):dJ (l++k)=dJ l++dJ k:=by unfold dJ;rw [acy]
theorem an8 (l:List Int):(dJ l).length=l.length:=by unfold dJ;rw [abl]
theorem ati (v:L.l.length<=1048576) (h:au w0 w (tq p m L lv::aK 148 2 lv (jg L.l)::F)) :
  (L.l=[]/\lv=.slice none 0 0)\/∃ b cap cs,lv=.slice (some ⟨b,0,none⟩) L.l.length cap/\(∀ (i:Nat) (s:Int×Int),L.l[i]?=some s->cs[i*2]?=some (.int .i64 s.1)/\cs[i*2+1]?=some (.int .i64 s.2)) /\
   au w0 w (pt b (.cells cs 148 (0,0))::tq p m L lv::F)/\∀ u G,au w0 u (pt b (.cells cs 148 (0,0))::G)->au w0 u (aK 148 2 lv (jg L.l)::G):=by
 have g:=h.bZ;rcases g.nV with ⟨rfl,f,t⟩|⟨b,j,cap,cs,rfl,c,d,n,e,htk,o⟩
 ·left;refine ⟨?_,rfl⟩;cases hl:L.l with
  |nil=>rfl
  |cons a l=>rw [hl]at f;simp [jg]at f
 ·right;rw [qx]at c;obtain rfl:j=L.l.length:=oQ;refine ⟨b,cap,cs,rfl,?_,o,λu G r=>au.pV r (by rw [qx];omega) d n e htk⟩;exact afJ
theorem ER (hL:L.Ok) (h:au w0 w (bC p m L::F)) :
  Calls prog 21 #[aW p] w (bf λv w'=>au w0 w' (aK 3 1 v (dJ L.aX)::bC p m L::F)):=by
 obtain ⟨lv,y⟩:=bC.xJ h;clear h;have a:=Aj y;rcases ati hL.len y with ⟨d,rfl⟩|⟨b,cap,R,rfl,n,M,f⟩
 ·have r:=uQ (show L.aX=[] by unfold aB.aS.aX;rw [d];rfl);clear d hL;go_enter func21,ntmps21;go_wp2_with fail;refine a.mono ?_;rintro e S ⟨v,rfl,rfl,rfl⟩;clear a;go_wp2_with ((with_reducible refine dH ⟨?_⟩);refine jC aQ aA dh dG aF aC ?_)
  go_loopg [14,3] 0 (λg z A B=>z=.int .i64 0/\A=.slice none 0 0/\B=w)
  case atStart=>exact ⟨rfl,rfl,rfl⟩
  case round=>
   obtain ⟨rfl,rfl,rfl⟩:=hrel;go_wp2;go_ret;rw [r.o];exact ⟨_,rfl,au.iW.2 (bC.oO y)⟩
 ·have C:=uQ n;have t:=uQ f;have u:=uQ hL.len;clear n f hL y;go_enter func21,ntmps21;go_wp2_with fail;refine a.mono ?_;rintro e S ⟨v,rfl,rfl,rfl⟩;clear a;go_wp2_with ((with_reducible refine dH ⟨?_⟩);refine jC aQ aA dh dG aF aC ?_)
  go_loopg [14,3] L.l.length (λg z A B=>∃ i:Nat,g=L.l.length-i/\i<=L.l.length/\z=.int .i64 i /\
   au w0 B (aK 3 1 A (dJ ((L.l.take i).map (·.1)))::pt b (.cells R 148 (0,0))::tq p m L (.slice (some ⟨b,0,none⟩) L.l.length cap)::F))
  case atStart=>exact ⟨0,rfl,acn _,rfl,au.iW.2 M⟩
  case round=>
   obtain ⟨i,rfl,hi,rfl,D⟩:=hrel;clear M;by_cases c:i<L.l.length
   ·obtain ⟨s,E⟩:∃ s,L.l[i]?=some s:=⟨_,aaf c⟩
    have G:=uQ (show dJ ((L.l.take i).map (·.1))++[.int .i64 s.1]=dJ ((L.l.take (i+1)).map (·.1)) by
     rw [ajf,E,acy,an7];rfl)
    have N:(dJ ((L.l.take i).map (·.1))).length<=2147483648:=by
     rw [an8,abl,abA];have:=u.o;omega
    obtain ⟨O,P⟩:=C.o i s E;have H:=uQ O;have I:=uQ P;have x:=uQ c;have J:(i:Int)<(L.l.length:Int):=oQ;have T:IntKind.i64.wrap ((i:Int)+1)=(i:Int)+1:=abR _ (by have:=u.o;omega);clear E O P c
    go_wp2_with (first
     |((with_reducible refine dH ⟨?_⟩);refine IU (b:=b) (o:=i*2) [.int .i64 s.1,.int .i64 s.2] aQ aA dh (λj v K=>by
       rcases j with _|_|j
       ·cases K;exact H.o
       ·cases K;exact I.o
       ·simp at K) underlying148 rfl aC ?_)
     |(refine iR aiH aQ rfl ?_;intro W X U)
     |((with_reducible refine eG ⟨?_⟩);refine jI aQ aA aF pQ fJ dG aC aA ?_;intro Y D)|((with_reducible refine dH ⟨?_⟩);refine jC aQ aA dh dG aF aC ?_)|((with_reducible refine rV ⟨?_⟩);refine rJ (e:=3) (sz:=1) (je:=8) aC aQ aF aF aA dG ?_;intro Z wN hN)|((with_reducible refine oK ⟨?_⟩);refine sJ 3 1 8 aC aQ aA aA dh dh aA dG aA aQ dG dG aF ?_;intro bA nA cA wA Q))
    go_roundg (L.l.length-(i+1))
    case measure=>have:=x.o;omega
    case rel=>
     refine ⟨i+1,rfl,aiW x.o,by first|rfl|go_num,?_⟩;rw [G.o]at Q;exact au.sb Q
   ·obtain rfl:i=L.l.length:=oQ;have J:¬ (L.l.length:Int)<(L.l.length:Int):=oQ;rw [ai0]at D;clear hi c;go_wp2;go_ret;refine ⟨_,rfl,?_⟩;have V:=t.o _ _ (D.pk);exact au.sub (bC.oO (lv:= .slice (some ⟨b,0,none⟩) L.l.length cap) (au.sb V)) oG
end
section
section
variable {o:Nat}{t:TypeId}{pos:String}{g:Nat×Bool}
theorem Eo (h:lQ (wpList P ops Q (⟨dst,.load ty x,t,pos,after,some g⟩::rest) a w)):wpList P ops Q (⟨dst,.load ty x,t,pos,after,some g⟩::rest) a w:=h.o
theorem au5 (hw:Region.wanted ⟨dst,.load ty x,t,pos,after,some g⟩ (yielded ops a.tmps)=true) (hs:au w0 w L) (hx:a.eval x=.pointer (some ⟨b,o,none⟩)) (p:mW (pt b (.cells cs T (0,0))) L R) (hlt:o+1<=cs.size) (hv:cs.getD o undef=v) (h1:Fa P ty=true)
  (h:wpList P ops Q rest (a.put dst v) w):wpList P ops Q (⟨dst,.load ty x,t,pos,after,some g⟩::rest) a w:=
 wpList_step λ_ hK=>by
  rw [abL hw];exact afi
theorem DX (e:Region.wanted ⟨dst,.load ty x,t,pos,after,some g⟩ (yielded ops a.tmps)=true) (f:a.eval x=.pointer (some ⟨b,o,none⟩)) (c:List Value) (d:TypeDesc) (i:w.rangeAt b o c)
  (j:P.underlying ty=some d) (hd:d.isRow=true) (hi:(P.info? ty).map (·.size)=some c.length)
  (h:wpList P ops Q rest (a.put dst (.agg c.toArray)) w):wpList P ops Q (⟨dst,.load ty x,t,pos,after,some g⟩::rest) a w:=
 wpList_step λ_ k=>by
  rw [abL e];exact wp_load_mid ty x rfl b o f c d i j hd hi (k _ _ h)
end
theorem SV (x:ay.aT) (dv:Value):(dR x dv).getD 0 undef=.int .i64 x.dB:=rfl
theorem amb (x:ay.aT) (dv:Value) (hk:x.key.length=32):(dR x dv).getD 33 undef=dv:=by
 rw [alF,Gw x dv hk];rfl
theorem Jk {L R:List aO}{b:Nat}{e:ay.aT}{dv:Value}{T:TypeId} (h:au w0 w L) (p:mW (pt b (.cells (dR e dv) T (0,0))) L R) (hk:e.key.length=32):w.rangeAt b 1 (aI e.key):=by
 intro j y hj;have:=SX e dv hk j y yY0;exact h.bI p (1+j) this
end
def dQ (p:aB.bT):List Value:=[.int .i64 p.aZ,.int .i64 p.aP,.int .i64 p.size]
def lg (a:aJ.iH):List Value:=[.int .i64 a.dB,.int .i64 a.jf.aZ,.int .i64 a.jf.aP,.int .i64 a.jf.size,.int .i64 a.first]
abbrev FX:aJ.iH:=⟨0,aB.bT.zero,0⟩
abbrev FY:aB.bT:=aB.bT.zero
theorem Ic (p:aB.bT):(dQ p).length=3:=rfl
theorem Zf (a:aJ.iH):(lg a).length=5:=rfl
theorem OO (p:aB.bT):(dQ p).all (·.oneCell')=true:=rfl
theorem Zg (a:aJ.iH):(lg a).all (·.oneCell')=true:=rfl
def bY {V:Type} (enc:V->List Value) (x:aY.gy V):List Value:= .int .i64 x.st::(aI x.key++enc x.val)
abbrev kY (p:Nat) (T:TypeId) (sv:Value) (n g:Nat):aO:=pt p (.cells #[sv,.int .i64 n,.int .i64 g] T (0,0))
theorem pG {V:Type} (enc:V->List Value) (x:aY.gy V) (hk:x.key.length=32) (m:Nat) (he:(enc x.val).length=m):(bY enc x).length=33+m:=by
 unfold bY;rw [aiT,aay,bP,hk,he];omega
theorem yu (b:ay.Bs):(aI b).all (·.oneCell')=true:=by
 rw [ajC];intro v hv;unfold aI at hv;obtain ⟨c,_,rfl⟩:=abI.1 hv
 rfl
theorem y7 {V:Type} (enc:V->List Value) (x:aY.gy V) (he:(enc x.val).all (·.oneCell')=true):(bY enc x).all (·.oneCell')=true:=by
 unfold bY;rw [List.all_cons,ana,yu,he];rfl
theorem atC {V:Type} (enc:V->List Value) (x:aY.gy V){j:Nat}{v:Value} (h:(aI x.key)[j]?=some v):(bY enc x)[1+j]?=some v:=by
 unfold bY;exact afN
theorem ahu {V:Type} (enc:V->List Value) (x:aY.gy V) (hk:x.key.length=32){j:Nat}{v:Value} (h:(enc x.val)[j]?=some v):(bY enc x)[33+j]?=some v:=by
 unfold bY;rw [show 33+j=32+j+1 by omega,asQ,aiP (by rw [bP,hk];omega),bP,hk,avN];exact h
theorem Yb:nR prog 345=some (.agg (bY lg ⟨0,ay.gu,⟨0,aB.bT.zero,0⟩⟩).toArray):=aC
theorem Ld:nR prog 215=some (.agg (bY dQ ⟨0,ay.gu,aB.bT.zero⟩).toArray):=aC
section
variable {V:Type}{enc:V->List Value}{x:aY.gy V}{l:List Value}
theorem wO (h:au w0 w (pt b (.cells l.toArray T (0,0))::R)):w.rangeAt b 0 l:=λj v hj=>by
 have:=h.bI bJ j (by rw [ab5];exact hj);rw [aiO];exact this
theorem Ir (h:au w0 w (pt b (.cells (bY enc x).toArray T (0,0))::R)):w.rangeAt b 1 (aI x.key):=λj v hj=>
 h.bI bJ (1+j) (by rw [ab5];exact atC enc x hj)
theorem atD (hk:x.key.length=32) (h:au w0 w (pt b (.cells (bY enc x).toArray T (0,0))::R)):w.rangeAt b 33 (enc x.val):=λj v hj=>
 h.bI bJ (33+j) (by rw [ab5];exact ahu enc x hk hj)
end
theorem OU (A B vs:List Value) (i:Nat) (h:i+vs.length<=A.length):o9 (A++B) i vs=o9 A i vs++B:=by
 unfold o9;rw [ajj oQ,auU oQ];simp only [ab6]
theorem PN {α:Type}{f:α->List Value}{k:Nat}:∀ {l:List α}{i o:Nat}{x x':α}{vs:List Value},(∀ x∈l,(f x).length=k)->l[i]?=some x->f x'=o9 (f x) o vs->o+vs.length<=k->(l.set i x').flatMap f=o9 (l.flatMap f) (i*k+o) vs
 |[],_,_,_,_,_,_,h,_,_=>by cases h
 |y::l,0,o,x,x',vs,hk,h,hx,ho=>by
  obtain rfl:y=x:=by simpa using h
  rw [List.set_cons_zero,aiN,aiN,Nat.zero_mul,aiO,hx,OU _ _ _ _ (by rw [hk y (.head _)];exact ho)]
 |y::l,i+1,o,x,x',vs,hk,h,hx,ho=>by
  have h0:=hk y (.head _);rw [List.set_cons_succ,aiN,aiN,PN (λz hz=>hk z (.tail _ hz)) yJ0 hx ho,show (i+1)*k+o=(f y).length+(i*k+o) by rw [h0,Nat.succ_mul];omega,Dt]
theorem aht {V:Type} (enc:V->List Value) (x:aY.gy V) (v:V) (hk:x.key.length=32) (he:(enc v).length=(enc x.val).length):bY enc ⟨x.st,x.key,v⟩=o9 (bY enc x) 33 (enc v):=by
 have e:bY enc x=(.int .i64 x.st::aI x.key)++enc x.val:=rfl;have hl:(Value.int .i64 x.st::aI x.key).length=33:=by rw [aiT,bP,hk]
 rw [e,show 33=(Value.int .i64 x.st::aI x.key).length+0 by rw [hl],Dt];unfold o9;rw [ajN,ajc,aiO,he,awm,ahB];rfl
section
variable {T:Nat}{a:Option Addr}
theorem J3 (h:au w0 w (aK T sz (.slice a n c) xs::R)) (hx:0<xs.length):∃ b,a=some ⟨b,0,none⟩:=by
 rcases au.nV h with ⟨_,rfl,_⟩|⟨b,n',cap',cs,he,_⟩
 ·simp at hx
 ·cases he;exact ⟨b,rfl⟩
end
theorem aiA (n g l:Nat) (h:n+g<=134217728) (hl:l<=1073741824) :
  IntKind.i64.wrap ((n:Int)+(g:Int))=(n:Int)+(g:Int)/\IntKind.i64.wrap ((n:Int)+(g:Int)+1)=(n:Int)+(g:Int)+1/\IntKind.i64.wrap (4*((n:Int)+(g:Int)+1))=4*((n:Int)+(g:Int)+1)/\IntKind.i64.wrap (3*(l:Int))=3*(l:Int) /\
  wrap64 ((n:Int)+(g:Int))=(n:Int)+(g:Int)/\wrap64 ((n:Int)+(g:Int)+1)=(n:Int)+(g:Int)+1/\wrap64 (4*((n:Int)+(g:Int)+1))=4*((n:Int)+(g:Int)+1)/\wrap64 (3*(l:Int))=3*(l:Int)/\IntKind.i64.wrap ((n:Int)+1)=(n:Int)+1:=
 ⟨abR _ oQ,abR _ oQ,abR _ oQ,abR _ oQ,ajU _ oQ,ajU _ oQ,ajU _ oQ,ajU _ oQ,abR _ oQ⟩
theorem aqr:yA prog 345=some [(0,1),(1,32),(33,5)]:=aC
theorem aer:yA prog 215=some [(0,1),(1,32),(33,3)]:=aC
theorem Ig {xs vs:List Value} (h:vs.length=xs.length):o9 xs 0 vs=vs:=by
 unfold o9;rw [ajN,ajc,aiO,h,awm,ahB]
theorem BI (cs:Array Value) (o:Nat) (vs:List Value) (h:o+vs.length<=cs.size):(iK cs o vs).toList=o9 cs.toList o vs:=by
 rw [qY _ _ _ h,ab6];rfl
theorem U9 {V:Type} (enc:V->List Value) (z:aY.gy V) (k:ay.Bs) (v:V) (hz:z.key.length=32) (hk:k.length=32) (he:(enc v).length=(enc z.val).length) (n:Nat) (hn:(enc z.val).length=n) :
  J5 [(0,1),(1,32),(33,n)] (bY enc z).toArray [(0,.int .i64 1),(1,.agg (aI k).toArray),(2,.agg (enc v).toArray)]=(bY enc ⟨1,k,v⟩).toArray:=by
 have hzl:(bY enc z).length=33+n:=by rw [pG enc z hz _ hn]
 show iK (iK (iK (bY enc z).toArray 0 [.int .i64 1]) 1 (aI k)) 33 (enc v)=_;apply vS;rw [BI _ _ _ (by rw [pW,pW,abC,hzl];omega),BI _ _ _ (by rw [pW,abC,hzl,bP,hk];omega),BI _ _ _ (by rw [abC,hzl,ai8];omega)];have e:bY enc z=[.int .i64 z.st]++(aI z.key++enc z.val):=rfl;have e1:o9 (bY enc z) 0 [.int .i64 1]=[.int .i64 1]++(aI z.key++enc z.val):=by
  rw [e,OU _ _ _ _ (abG 1)];rfl
 have e2:o9 ([Value.int .i64 1]++(aI z.key++enc z.val)) 1 (aI k)=[Value.int .i64 1]++(aI k++enc z.val):=by
  have h0:=Dt [Value.int .i64 1] (aI z.key++enc z.val) (aI k) 0;have h1:o9 (aI z.key++enc z.val) 0 (aI k)=aI k++enc z.val:=by
   rw [OU _ _ _ _ (by rw [bP,bP,hk,hz];omega),Ig (by rw [bP,bP,hk,hz])]
  rw [h1]at h0;exact h0
 have e3:o9 ([Value.int .i64 1]++(aI k++enc z.val)) 33 (enc v)=[Value.int .i64 1]++(aI k++enc v):=by
  have h0:=Dt ([Value.int .i64 1]++aI k) (enc z.val) (enc v) 0;rw [Ig he]at h0;have hl:([Value.int .i64 1]++aI k).length+0=33:=by rw [aay,bP,hk];rfl
  rw [hl,ab6,ab6]at h0;exact h0
 simp only [];rw [e1,e2,e3];rfl
open Go.aG
section
variable {s:List (aY.gy (aJ.iH))}{a:Option Addr}
theorem aeh (hl:0<s.length) (h:au w0 w (kY p 306 (.slice a s.length c) n gn::F)) :
  Calls prog 234 #[aW p] w (bf λv w'=>v=.bool true/\w=w'):=by
 have e0:w.cell? ⟨p,0,none⟩=some (.slice a s.length c):=h.dD 0 _ rfl;have c1:(0:Int)<(s.length:Int):=oQ
 go_in
 go_wp2;go_ret;exact ⟨_,rfl,rfl,rfl⟩
theorem Uw(h:C:=by
 have Hk:=uQ hk;have HG:=uQ g;have HE:=uQ he;have Hc:=uQ hc;have Hlen:=uQ (show ∀ x∈s,(bY iM x).length=iG from λx hx=>pG iM x (g.key x hx) lG (DR _));obtain ⟨la,lc,rfl⟩:=l9 Hlen.o (au.rd (h.pick bZ)) aU;obtain ⟨j,hj,_⟩:=g.J4;have abW:j<40:=by
  rcases anF j 40 with q|q
  ·exact q
  ·have:2^40<=2^j:=aon aU q;have ND:(2:Nat)^40=1099511627776:=aU
   ((try simp only [iG,lG,kZ,jv] at *);omega)
 have Hj:=uQ hj;have YD:=uQ abW;have Hd:=uQ (show d<s.length from he.lt);have hp0:0<s.length:=g.qX;have vG:=uQ hp0;have Hpz:=uQ (aY.aqz (k:=k) hp0);clear hj abW hk g he hc hp0;go_enter XG,XH;go_wp2_with ((with_reducible refine jy ⟨?_⟩);refine jB aQ aF aF ?_;intro bB wB hB);have hB1:=hB.drew;clear hB;refine gK [6,7] (λw'=>w'.rangeAt bB 0 (aI k)/\w'.cell? ⟨p,0,none⟩=some (.slice la s.length lc)) aC ?_;have hG:World.rangeAt _ bB 0 (aI k)/\World.cell? _ ⟨p,0,none⟩=some (.slice la s.length lc):=⟨wO (hB1.pk (A:=pt bB (.cells (aI k).toArray 34 (0,0)))),hB1.bI dh 0 rfl⟩;refine ji 0 aF aC dF (lF (b:=bB) (o:=0) (aI k) aA underlying34 rfl zB0 (λw hw=>hw.1)) aQ gQ ?_;refine rP 1 ?_ (y:=bV);refine rP 2 ?_ (y:=jF);refine rP 3 ?_ (y:=eY);refine rt 4 (h:=?_);refine rP 5 ?_ (y:=(vX aF dX));clear hG;have hh:=anE k Hk.o j YD.o hB1;rw [<-Hj.o]at hh
 refine dZ 6 aF aC (λK hK=>?_)
 (refine kM aC aF aF ?_)
 refine hh.mono ?_;rintro ee w2 ⟨v,rfl,rfl,hS2⟩;refine hK _ _ (.inl rfl) ?_;clear hK hh hB1;refine rP 7 ?_ (y:=kR);refine fK aC ?_
 try simp only [kW]
 try go_frame
 rw [<-Hpz.o];go_wp2_with fail
 go_loopg [7,8] d (λg aq sq wr=>∃ e:Nat,g=d-e/\e<=d/\aq=.int .i64 (aY.pos k s.length e:Nat)/\sq=.int .i64 ((e:Int)+1) /\
  au w0 wr (pt bB (.cells (aI k).toArray 34 (0,0))::kY p kZ (.slice la s.length lc) n gn::aK jv iG (.slice la s.length lc) (s.flatMap (bY iM))::F))
 case atStart=>exact ⟨0,rfl,acn _,rfl,rfl,hS2.sb⟩
 case round=>
  obtain ⟨e,rfl,hed,rfl,rfl,hS⟩:=hrel;clear hS2;have hlt:=aY.xK (k:=k) (d:=e) vG.o;have hdl:=Hd.o;have hcl:=Hc.o;obtain ⟨x,hx⟩:∃ x,s[aY.pos k s.length e]?=some x:=⟨_,aaf hlt⟩;have hxm:=abH hx;have hst:=HG.o.st x hxm;have Hxk:=uQ (HG.o.key x hxm);obtain ⟨bk,off,c',hsv,hcell⟩:=lV Hlen.o (au.rd (hS.pick jS)) hx aU;have LM:=uQ (aY.aqy (k:=k) (d:=e) vG.o);have YK:=uQ (Zj (aY.pos k s.length e+1) j oQ (by have:=YD.o;((try simp only [iG,lG,kZ,jv] at *);omega)))
  have CJ:=uQ (show e=d↔x.KE k from ⟨λh=>by
    subst h;obtain ⟨y,hy,hs⟩:=HE.o.GR;rw [hx]at hy;cases hy;exact hs,λh=>by
    rcases anF e d with q|q
    ·exact absurd ⟨x,hx,h⟩ (HE.o.no e q)
    ·((try simp only [iG,lG,kZ,jv] at *);omega)⟩)
  have Hx:=uQ hx;cases hsv;have c0:(0:Int)<=((aY.pos k s.length e:Nat):Int):=oQ;have c1:((aY.pos k s.length e:Nat):Int)<(s.length:Int):=oQ;have c2:aY.pos k s.length e<s.length:=hlt;have e0:wr.cell? ⟨p,0,none⟩=some (.slice (some ⟨bk,off,none⟩) s.length lc):=hS.bI dh 0 rfl;have o7:=Hlen.o x hxm;clear hx hxm;have hq:bits .and .i64 (((aY.pos k s.length e:Nat):Int)+1) ((s.length:Int)-1)=((aY.pos k s.length (e+1):Nat):Int):=by
   have h1:=YK.o;rw [<-Hj.o,LM.o]at h1;rw [<-h1]
   congr 1
   have:=vG.o
   ((try simp only [iG,lG,kZ,jv] at *);omega)
  have hw1:IntKind.i64.wrap (((aY.pos k s.length e:Nat):Int)+1)=((aY.pos k s.length e:Nat):Int)+1:=abR _ oQ;have hw2:IntKind.i64.wrap ((s.length:Int)-1)=(s.length:Int)-1:=abR _ oQ;have hw3:IntKind.i64.wrap ((e:Int)+1+1)=(e:Int)+1+1:=abR _ oQ;clear hdl hcl;generalize hP1:aY.pos k s.length (e+1)=P1 at hq;have Yi:=uQ hP1;generalize hP:aY.pos k s.length e=P0 at *
  have HP:=uQ hP;clear hP1 hP hlt YK LM;have Yv:=uQ hed;clear hed;go_wp2_with (with_reducible apply dH);refine ⟨jC hS aA dh dG aF aC ?_⟩;go_wp2_with (with_reducible apply dH);refine ⟨kQ (b:=bk) (o:=off+P0*iG) (bY iM x) aA hcell FH rfl yV0 ?_⟩;go_wp2_with (with_reducible apply jd);refine ⟨iR FI hS rfl ?_⟩;intro b9 w9 oh;go_wp2_with (first|((with_reducible refine eG ⟨?_⟩);refine jK (bY iM x).toArray oh aA aA zW0 eu yW0 zD0 ?_;intro w10 jX)|(with_reducible apply dH));refine ⟨?_⟩;clear hS oh hcell e0;have f0:w10.cell? ⟨b9,0,none⟩=some (.int .i64 x.st):=jX.bI bJ 0 (by rw [ab5];rfl);have f1:w10.rangeAt b9 1 (aI x.key):=Ir (jX.pick bJ);have f2:w10.cell? ⟨p,0,none⟩=some (.slice (some ⟨bk,off,none⟩) s.length lc):=jX.bI dh 0 rfl
  have hend:au w0 w10 (pt bB (.cells (aI k).toArray 34 (0,0))::kY p kZ (.slice (some ⟨bk,off,none⟩) s.length lc) n gn::aK jv iG (.slice (some ⟨bk,off,none⟩) s.length lc) (s.flatMap (bY iM))::F):=jX.sb;have h3:x.st=0\/x.st=1\/x.st=2:=oQ;rcases h3 with h3|h3|h3
  ·have h4:e=d:=CJ.o.2 (.inl h3);rw [h3]at f0;have Hdx:=uQ (show decide (x.st=1)=false by rw [h3];rfl);have x9:=uQ (show (x.st:Int)=0 by rw [h3];rfl);clear CJ hst h3 f1 f2 hq hw1 hw2 hw3 c0 c1 c2;subst h4;go_wp2_with fail;have zx:=jX.drew;clear jX;refine gK [4,7] (λw'=>w'.cell? ⟨b9,0,none⟩=some (.int .i64 0)) aC ?_;have hG:World.cell? _ ⟨b9,0,none⟩=some (.int .i64 0):=zx.bI bJ 0 (by rw [ab5,<-x9.o];rfl);clear f0;refine rP 0 ?_ (y:=bV);refine rP 1 ?_ (y:=bV);refine rP 2 ?_ (y:=eY);refine rt 3 (h:=?_);refine rP 4 ?_ (y:=nT);refine rP 5 ?_ (y:=kR);refine rP 6 ?_ (y:=kR);refine rP 7 ?_ (y:=kR);refine fK aC ?_;clear hG
   try simp only [kW]
   try go_frame
   go_wp2_with fail
   go_ret3
   exact ⟨_,rfl,x,by rw [HP.o];exact Hx.o,by rw [HP.o,Hdx.o];rfl,zx.sb⟩
  ·have f3:w10.rangeAt bB 0 (aI k):=wO (jX.pk (A:=pt bB (.cells (aI k).toArray 34 (0,0))));have hkk:=Np x.key k Hxk.o Hk.o;rw [h3]at f0;by_cases hxk:x.key=k
   ·have h4:e=d:=CJ.o.2 (.inr ⟨h3,hxk⟩);have Hdx:=uQ (show decide (x.st=1)=true by rw [h3];rfl);have x9:=uQ (show (x.st:Int)=1 by rw [h3];rfl);rw [aiC hxk]at hkk;clear CJ hst h3 hxk hq hw1 hw2 hw3 c0 c1 c2 f2;subst h4
    go_wp2_with (first
     |((with_reducible refine Eo ⟨?_⟩);refine DX (o:=1) aA aA (aI x.key) _ f1 underlying34 rfl yL0 ?_)
     |((with_reducible refine Eo ⟨?_⟩);refine DX (o:=0) aA aA (aI k) _ f3 underlying34 rfl zB0 ?_))
    clear hkk f1 f3;have zx:=jX.drew;clear jX;refine gK [4,7] (λw'=>w'.cell? ⟨b9,0,none⟩=some (.int .i64 1)) aC ?_;have hG:World.cell? _ ⟨b9,0,none⟩=some (.int .i64 1):=zx.bI bJ 0 (by rw [ab5,<-x9.o];rfl);clear f0;refine rP 0 ?_ (y:=bV);refine rP 1 ?_ (y:=bV);refine rP 2 ?_ (y:=eY);refine rt 3 (h:=?_);refine rP 4 ?_ (y:=nT);refine rP 5 ?_ (y:=kR);refine rP 6 ?_ (y:=kR);refine rP 7 ?_ (y:=kR);refine fK aC ?_;clear hG
    try simp only [kW]
    try go_frame
    go_wp2_with fail
    go_ret3
    exact ⟨_,rfl,x,by rw [HP.o];exact Hx.o,by rw [HP.o,Hdx.o];rfl,zx.sb⟩
   ·have h4:e<d:=by
     have:=Yv.o;rcases anF e d with q|q
     ·exact q
     ·exact absurd (CJ.o.1 oQ) (λh=>h.elim (λh=>by ((try simp only [iG,lG,kZ,jv] at *);omega)) λh=>hxk h.2)
    rw [aes hxk]at hkk;have H4:=uQ h4;clear CJ hst h3 hxk h4
    go_wp2_with (first
     |((with_reducible refine Eo ⟨?_⟩);refine DX (o:=1) aA aA (aI x.key) _ f1 underlying34 rfl yL0 ?_)
     |((with_reducible refine Eo ⟨?_⟩);refine DX (o:=0) aA aA (aI k) _ f3 underlying34 rfl zB0 ?_))
    go_roundg (d-(e+1))
    case measure=>have:=H4.o;((try simp only [iG,lG,kZ,jv] at *);omega)
    case rel=>exact ⟨e+1,rfl,H4.o,by rw [Yi.o],by first|rfl|go_num,jX.sb⟩
  ·have h4:e<d:=by
    have:=Yv.o;rcases anF e d with q|q
    ·exact q
    ·exact absurd (CJ.o.1 oQ) (λh=>h.elim (λh=>by ((try simp only [iG,lG,kZ,jv] at *);omega)) λh=>by ((try simp only [iG,lG,kZ,jv] at *);omega))
   rw [h3]at f0;have H4:=uQ h4;clear CJ hst h3 f1 h4;go_wp2_with fail
   go_roundg (d-(e+1))
   case measure=>have:=H4.o;((try simp only [iG,lG,kZ,jv] at *);omega)
   case rel=>exact ⟨e+1,rfl,H4.o,by rw [Yi.o],by first|rfl|go_num,jX.sb⟩):C:=h
abbrev fG.iM:=@lg
abbrev fG.iG:Nat:=38
abbrev fG.lG:Nat:=5
abbrev fG.DR:=@Zf
abbrev fG.XG:=@func235
abbrev fG.XH:=@ntmps235
abbrev fG.kZ:Nat:=306
abbrev fG.jv:Nat:=345
abbrev fG.FH:=@underlying345
abbrev fG.FI:=@Yb
abbrev fG.DK:=@Zg
open fG in
theorem aaZ (g:aY.pK s) (hc:s.length<=1073741824) (hk:k.length=32) (he:aY.rO s k d) (h:au w0 w (kY p 306 sv n gn::aK 345 38 sv (s.flatMap (bY lg))::F)) :
  Calls prog 235 #[aW p,.agg (aI k).toArray] w (bf λv w'=>∃ x,s[aY.pos k s.length d]?=some x/\v=.tuple #[.int .i64 (aY.pos k s.length d:Nat),.int .i64 ((d:Int)+1),.bool (decide (x.st=1))] /\
   au w0 w' (kY p 306 sv n gn::aK 345 38 sv (s.flatMap (bY lg))::F)):=Uw
end
section
variable {s:List (aY.gy (aB.bT))}{a:Option Addr}
theorem JZ (hl:0<s.length) (h:au w0 w (kY p 217 (.slice a s.length c) n gn::F)) :
  Calls prog 123 #[aW p] w (bf λv w'=>v=.bool true/\w=w'):=by
 have e0:w.cell? ⟨p,0,none⟩=some (.slice a s.length c):=h.dD 0 _ rfl;have c1:(0:Int)<(s.length:Int):=oQ
 go_in
 go_wp2;go_ret;exact ⟨_,rfl,rfl,rfl⟩
abbrev fH.iM:=@dQ
abbrev fH.iG:Nat:=36
abbrev fH.lG:Nat:=3
abbrev fH.DR:=@Ic
abbrev fH.XG:=@func172
abbrev fH.XH:=@ntmps172
abbrev fH.kZ:Nat:=217
abbrev fH.jv:Nat:=215
abbrev fH.FH:=@underlying215
abbrev fH.FI:=@Ld
abbrev fH.DK:=@OO
open fH in
theorem Ti (g:aY.pK s) (hc:s.length<=1073741824) (hk:k.length=32) (he:aY.rO s k d) (h:au w0 w (kY p 217 sv n gn::aK 215 36 sv (s.flatMap (bY dQ))::F)) :
  Calls prog 172 #[aW p,.agg (aI k).toArray] w (bf λv w'=>∃ x,s[aY.pos k s.length d]?=some x/\v=.tuple #[.int .i64 (aY.pos k s.length d:Nat),.int .i64 ((d:Int)+1),.bool (decide (x.st=1))] /\
   au w0 w' (kY p 217 sv n gn::aK 215 36 sv (s.flatMap (bY dQ))::F)):=Uw
end
def jV (p:Nat) (m:ay.Bs->Option (aJ.iH)) (B:Nat):aO:=λh=>∃ (t:aY.Tb (aJ.iH)) (sv:Value),(t.Ok/\t.Is m/\t.n+t.gB<=B)/\nP [kY p 306 sv t.n t.gB,aK 345 38 sv (t.bG.flatMap (bY lg))] h
theorem Qz:nR prog 254=some (.agg (lg ⟨0,aB.bT.zero,0⟩).toArray):=aC
section
variable {m:ay.Bs->Option (aJ.iH)}{t:aY.Tb (aJ.iH)}
theorem Ux(h:C:=by
 obtain ⟨ha,x,hx,q,r,dd,rfl,⟨t,sv,hin,hp⟩,hq⟩:=h;refine ⟨t,sv,hin,ha,_,hx,?_⟩;show nP ([kY p kZ sv t.n t.gB,aK jv iG sv (t.bG.flatMap (bY iM))]++F) _;rw [zG];exact ⟨q,r,dd,rfl,hp,hq⟩):C:=h
open fG in
theorem jV.open (h:au w0 w (jV p m B::F)):∃ (t:aY.Tb (aJ.iH)) (sv:Value),(t.Ok/\t.Is m/\t.n+t.gB<=B)/\au w0 w (kY p 306 sv t.n t.gB::aK 345 38 sv (t.bG.flatMap (bY lg))::F):=Ux
theorem jV.fA (a:t.Ok) (b:t.Is m) (c:t.n+t.gB<=B) (h:au w0 w (kY p 306 sv t.n t.gB::aK 345 38 sv (t.bG.flatMap (bY lg))::F)):au w0 w (jV p m B::F):=
 au.join h λ_ d=>⟨t,sv,⟨a,b,c⟩,d⟩
theorem Uy(h:C:=by
 go_enter Xm,Xn
 go_wp2_with (first
  |((with_reducible refine Zu ⟨?_⟩);refine aip (e:=jv) (sz:=iG) (je:=oH) (n:=8) aC FI h aA aA aU aU ?_;intro bM wM hM)
  |((with_reducible refine jy ⟨?_⟩);refine jB hM aF aF ?_;intro bB wB hB))
 go_ret;refine ⟨_,rfl,bB,rfl,?_⟩;have e:(List.replicate 8 (bY iM ⟨0,ay.gu,DL⟩)).flatten=(List.replicate 8 (⟨0,ay.gu,DL⟩:aY.gy (IG))).flatMap (bY iM):=(agM 8 _).symm;rw [e]at hB;exact Qi (t:=⟨List.replicate 8 ⟨0,ay.gu,DL⟩,0,0⟩) (aY.apx aU rfl) (aY.apw rfl 0 0) (abG 0) hB):C:=h
abbrev fG.Xm:=@func150
abbrev fG.Xn:=@ntmps150
abbrev fG.oH:Nat:=80
abbrev fG.DL:=@FX
abbrev fG.IG:=@aJ.iH
abbrev fG.Qi:=@jV.fA
open fG in
theorem apt (h:au w0 w F):Calls prog 150 #[] w (bf λv w'=>∃ p,v=aW p/\au w0 w' (jV p (λ_=>none) 0::F)):=Uy
theorem adD(h:C:=by
 obtain ⟨t,sv,⟨ok,is,hb⟩,hR⟩:=Xo h;obtain ⟨d,he⟩:=ok.pU k;have hsz:t.bG.length<=1073741824:=by have:=ok.size;((try simp only [lM,qM,uy,ru,qN] at *);omega)
 have Hlen:=uQ (show ∀ x∈t.bG,(bY jT x).length=lM from λx hx=>pG jT x (ok.dW.key x hx) qM (KO _));obtain ⟨la,lc,rfl⟩:=l9 Hlen.o (au.rd (hR.pick bZ)) aU;have Hk:=uQ hk;have fV:=uQ ok;have tN:=uQ is;have Hb:=uQ hb;have He:=uQ he;have sV:=uQ hsz;have vG:=uQ ok.dW.qX;clear h hk ok is hb he hsz hB;go_enter ahO,ahP;go_wp2_with (first|((with_reducible refine jy ⟨?_⟩);refine jB aQ aF aF ?_;intro bB wB hB)|(with_reducible apply jd));refine ⟨iR Xp hB rfl ?_⟩;intro b4 w4 hS4;go_wp2_with (with_reducible apply jd);refine ⟨iR Xp hS4 rfl ?_⟩;intro b6 w6 hS6;have NJ:au w0 w6 (kY p uy (.slice la t.bG.length lc) t.n t.gB::pt b6 (.cells (jT FK).toArray ru (0,0))::pt b4 (.cells (jT FK).toArray ru (0,0))::pt bB (.cells (aI k).toArray 34 (0,0))::aK qN lM (.slice la t.bG.length lc) (t.bG.flatMap (bY jT))::F):=hS6.sb;clear hB hS4 hS6 hR;go_wp2_with fail;refine (Xq vG.o NJ).mono ?_
 rintro ee w7 ⟨v,rfl,rfl,rfl⟩;go_wp2_with ((with_reducible refine dH ⟨?_⟩);refine kG NJ aA (bW (bW (bW bJ))) underlying34 rfl (by rw [abC,bP,Hk.o];kernel_rfl) ?_);have hf:=Qj fV.o.dW sV.o Hk.o He.o (NJ.sb:au w0 w6 (kY p uy (.slice la t.bG.length lc) t.n t.gB::aK qN lM (.slice la t.bG.length lc) (t.bG.flatMap (bY jT))::pt b6 (.cells (jT FK).toArray ru (0,0))::pt b4 (.cells (jT FK).toArray ru (0,0))::F));clear NJ;refine hf.mono ?_;rintro ee w8 ⟨v,rfl,x,hx,rfl,oZ⟩;clear hf;obtain ⟨m1,m2⟩:=tN.o.some fV.o He.o hx;have hxm:=abH hx;have hxk:=fV.o.dW.key x hxm;obtain ⟨bk,off,c',hsv,hcell⟩:=lV Hlen.o (au.rd (oZ.pick bZ)) hx aU;cases hsv;have hlt:=aY.xK (k:=k) (d:=d) vG.o;have hval:∀ j v,(jT x.val)[j]?=some v->w8.cell? ⟨bk,off+aY.pos k t.bG.length d*lM+33+j,none⟩=some v:=λj v hj=>by
  rw [avC _ 33 j];exact hcell (33+j) v (ahu jT x hxk hj)
 clear hcell hx hxm;generalize aY.pos k t.bG.length d=P0 at *
 have c0:(0:Int)<=(P0:Int):=oQ;have c1:(P0:Int)<(t.bG.length:Int):=oQ;have e0:w8.cell? ⟨p,0,none⟩=some (.slice (some ⟨bk,off,none⟩) t.bG.length lc):=oZ.bI dh 0 rfl;by_cases h1:x.st=1
 ·have hd:decide (x.st=1)=true:=aiC h1;have Hm:=uQ (m1 h1);clear m1 m2 h1
  go_wp2_with (first
   |((with_reducible refine dH ⟨?_⟩);refine jC oZ aA dh dG aF aC ?_)
   |((with_reducible refine dH ⟨?_⟩);refine kQ (b:=bk) (o:=off+P0*lM+33) (jT x.val) aA hval DN rfl aC ?_)
   |((with_reducible refine eG ⟨?_⟩);refine jK (jT x.val).toArray oZ aA aA aA (pJ (pJ (pJ eu))) aC aA ?_;intro w10 jX))
  refine ⟨rfl,_,uT rfl jX aA dh DN rfl aC,_,rfl,?_,KP fV.o tN.o Hb.o (jX.sb)⟩;rw [Hm.o];rfl
 ·have hd:decide (x.st=1)=false:=aes h1;have Hm:=uQ (m2 h1);clear m1 m2 h1
  go_wp2_with (first
   |((with_reducible refine dH ⟨?_⟩);refine kG oZ aA (bW (bW (bJ (A:=pt b6 (.cells (jT FK).toArray ru (0,0)))))) DN rfl aC ?_)
   |((with_reducible refine eG ⟨?_⟩);refine jK (jT FK).toArray oZ aA aA aA (pJ (pJ (pJ eu))) aC aA ?_;intro w10 jX))
  refine ⟨rfl,_,uT rfl jX aA (bW (bW (bW bJ))) DN rfl aC,_,rfl,?_,KP fV.o tN.o Hb.o (jX.sb)⟩;rw [Hm.o];rfl):C:=h
abbrev fG.Xo:=@jV.open
abbrev fG.jT:=@lg
abbrev fG.lM:Nat:=38
abbrev fG.qM:Nat:=5
abbrev fG.KO:=@Zf
abbrev fG.ahO:=@func194
abbrev fG.ahP:=@ntmps194
abbrev fG.Xp:=@Qz
abbrev fG.uy:Nat:=306
abbrev fG.FK:=@FX
abbrev fG.ru:Nat:=254
abbrev fG.qN:Nat:=345
abbrev fG.Xq:=@aeh
abbrev fG.Qj:=@aaZ
abbrev fG.DN:=@underlying254
abbrev fG.KP:=@jV.fA
open fG in
theorem amU (hB:B<=268435000) (hk:k.length=32) (h:au w0 w (jV p m B::F)) :
  Calls prog 194 #[aW p,.agg (aI k).toArray] w (bf λv w'=>v=.tuple #[.agg (lg ((m k).getD ⟨0,aB.bT.zero,0⟩)).toArray,.bool (m k).isSome]/\au w0 w' (jV p m B::F)):=adD
end
section
variable {m:ay.Bs->Option (aJ.iH)}{t:aY.Tb (aJ.iH)}
theorem Uz(h:C:=by
 have fV:=uQ ok;have HN:=uQ hN;have HNb:=uQ hNb;have Hlen:=uQ (show ∀ x∈t.bG,(bY iM x).length=iG from λx hx=>pG iM x (ok.dW.key x hx) lG (DR _));obtain ⟨la,lc,rfl⟩:=l9 Hlen.o (au.rd (h.pick bZ)) aU;have hw0:IntKind.i64.wrap (2*(N:Int))=2*(N:Int):=abR _ oQ;have av8:wrap64 (2*(N:Int))=2*(N:Int):=ajU _ oQ;clear ok hN;go_enter Xr,Xt;go_wp2_with fail
 go_loopg [4] (4*N) (λg cq wr=>∃ c:Nat,g=4*N+8-c/\cq=.int .i64 c/\(∃ j,c=2^j/\3<=j)/\8<=c/\(c=8\/c<4*N)/\wr=w)
 case atStart=>exact ⟨8,by ((try simp only [oH,iG,lG,kZ,jv] at *);omega),rfl,⟨3,rfl,abG 3⟩,abG 8,.inl rfl,rfl⟩
 case round=>
  obtain ⟨c,rfl,rfl,⟨j,hj,hj3⟩,hc8,hc,rfl⟩:=hrel;by_cases hlt:c<2*N
  ·have c1:(c:Int)<2*(N:Int):=by ((try simp only [oH,iG,lG,kZ,jv] at *);omega)
   have hw1:IntKind.i64.wrap ((c:Int)*2)=(c:Int)*2:=abR _ oQ;have av9:wrap64 ((c:Int)*2)=(c:Int)*2:=ajU _ oQ;have Hj:=uQ hj;have Hj3:=uQ hj3;have dP:=uQ hlt;have xZ:=uQ hc8;clear hj hj3 hlt hc hc8;go_wp2_with fail
   go_roundg (4*N+8-c*2)
   case measure=>have:=dP.o;have:=xZ.o;((try simp only [oH,iG,lG,kZ,jv] at *);omega)
   case rel=>exact ⟨c*2,rfl,by first|rfl|go_num,⟨j+1,by rw [awx,Hj.o],by have:=Hj3.o;((try simp only [oH,iG,lG,kZ,jv] at *);omega)⟩,by have:=xZ.o;((try simp only [oH,iG,lG,kZ,jv] at *);omega),.inr (by have:=dP.o;((try simp only [oH,iG,lG,kZ,jv] at *);omega)),rfl⟩
  ·have c1:¬ (c:Int)<2*(N:Int):=by ((try simp only [oH,iG,lG,kZ,jv] at *);omega)
   have HC:=uQ (show (∃ j,c=2^j/\3<=j)/\2*N<=c/\8<=c/\(c=8\/c<4*N) from ⟨⟨j,hj,hj3⟩,by ((try simp only [oH,iG,lG,kZ,jv] at *);omega),hc8,hc⟩);have hcb:c<=1073741824:=oQ;have Cj:=uQ hcb;clear hj hj3 hlt hc hc8 hw0 hcb hNb
   go_wp2_with (first
    |((with_reducible refine dH ⟨?_⟩);refine jC h aA dh dG aF aC ?_)
    |((with_reducible refine Zu ⟨?_⟩);refine aip (e:=jv) (sz:=iG) (je:=oH) (n:=c) aC FI h aA aA (by have:=Cj.o;((try simp only [oH,iG,lG,kZ,jv] at *);omega)) (by have:=Cj.o;((try simp only [oH,iG,lG,kZ,jv] at *);omega)) ?_;intro bM wM hM)
    |((with_reducible refine eG ⟨?_⟩);refine jI aQ aA aF pQ fJ dG aC aA ?_;intro wS hS))
   have e8:(List.replicate c (bY iM ⟨0,ay.gu,DL⟩)).flatten=(List.replicate c (⟨0,ay.gu,DL⟩:aY.gy (IG))).flatMap (bY iM):=(agM c _).symm;rw [e8]at hS;have hS0:au w0 _ (kY p kZ (.slice (some ⟨bM,0,none⟩) c c) t.n 0::aK jv iG (.slice (some ⟨bM,0,none⟩) c c) ((List.replicate c (⟨0,ay.gu,DL⟩:aY.gy (IG))).flatMap (bY iM))::aK jv iG (.slice la t.bG.length lc) (t.bG.flatMap (bY iM))::F):=hS.sb;clear hS hM h e8 c1;go_wp2_with fail
   go_loopg [31] t.bG.length (λg iq wr=>∃ (i:Nat) (cur:List (aY.gy (IG))),g=t.bG.length-i/\i<=t.bG.length/\iq=.int .i64 i/\aY.iO t.bG cur i/\cur.length=c /\
    au w0 wr (kY p kZ (.slice (some ⟨bM,0,none⟩) c c) t.n 0::aK jv iG (.slice (some ⟨bM,0,none⟩) c c) (cur.flatMap (bY iM))::aK jv iG (.slice la t.bG.length lc) (t.bG.flatMap (bY iM))::F))
   case atStart=>exact ⟨0,_,rfl,acn _,rfl,aY.anh HC.o.1 aU rfl,ajM,hS0⟩
   case round=>
    obtain ⟨i,cur,rfl,hi,rfl,hH,hcl,hS⟩:=hrel;clear hS0;have HH:=uQ hH;have oI:=uQ hcl;by_cases hlt:i<t.bG.length;rotate_left
    ·obtain rfl:i=t.bG.length:=by ((try simp only [oH,iG,lG,kZ,jv] at *);omega)
     have c1:¬ (t.bG.length:Int)<(t.bG.length:Int):=oQ;clear hlt hH hi;go_wp2_with fail
     go_end0
     obtain ⟨q1,q2,q3,q4⟩:=HH.o.done;exact ⟨_,rfl,cur,⟨q1,q2,q3.trans fV.o.n.symm,q4.trans fV.o.n.symm,by rw [oI.o];exact HC.o.2.1,by rw [oI.o];exact HC.o.2.2.1,by rw [oI.o];exact HC.o.2.2.2⟩,_,hS.sb⟩
    have c1:(i:Int)<(t.bG.length:Int):=oQ;have hwi:=EN (i:=i);obtain ⟨x,hx⟩:∃ x,t.bG[i]?=some x:=⟨_,aaf hlt⟩;have hxm:=abH hx;have hst:=fV.o.dW.st x hxm;have Hxk:=uQ (fV.o.dW.key x hxm);obtain ⟨bk,off,c',hsv,hcell⟩:=lV Hlen.o (au.rd (hS.pick jS)) hx aU;cases hsv;have o7:=Hlen.o x hxm;have Hx:=uQ hx;have dP:=uQ hlt;clear hx hxm hlt hH hi
    go_wp2_with (first
     |((with_reducible refine dH ⟨?_⟩);refine kQ (b:=bk) (o:=off+i*iG) (bY iM x) aA hcell FH rfl yV0 ?_)
     |(with_reducible apply jd))
    refine ⟨iR FI hS rfl ?_⟩;intro b7 w7 hS7;go_wp2_with (first|((with_reducible refine eG ⟨?_⟩);refine jK (bY iM x).toArray hS7 aA aA zW0 eu yW0 zD0 ?_;intro w10 jX)|(with_reducible apply dH));refine ⟨?_⟩;clear hS hS7 hcell;have f0:w10.cell? ⟨b7,0,none⟩=some (.int .i64 x.st):=jX.bI bJ 0 (by rw [ab5];rfl);have f1:w10.rangeAt b7 1 (aI x.key):=Ir (jX.pick bJ);by_cases h1:x.st=1;rotate_left
    ·have hst1:((x.st:Int)==1)=false:=by rw [acj];((try simp only [oH,iG,lG,kZ,jv] at *);omega)
     have H1:=uQ h1;clear h1 f1;go_wp2_with fail
     go_roundg (t.bG.length-(i+1))
     case measure=>have:=dP.o;((try simp only [oH,iG,lG,kZ,jv] at *);omega)
     case rel=>exact ⟨i+1,cur,rfl,dP.o,by first|rfl|go_num,HH.o.skip Hx.o H1.o,oI.o,jX.sb⟩
    ·have hus:aY.cO cur<cur.length:=by
      have h2:=HH.o.nu;have h3:=aY.amQ t.bG i;have h4:=fV.o.n;have h5:=HN.o;have h6:=HC.o;rw [oI.o];((try simp only [oH,iG,lG,kZ,jv] at *);omega)
     obtain ⟨dd,hdd⟩:=aY.aaL (k:=x.key) HH.o.dW (aY.abk hus);have H1:=uQ h1;have Yt:=uQ hdd;have hst1:((x.st:Int)==1)=true:=by rw [h1];rfl
     have Yr:=uQ (show ∀ y∈cur,(bY iM y).length=iG from λy hy=>pG iM y (HH.o.dW.key y hy) lG (DR _));clear h1 hus hdd;go_wp2_with ((with_reducible refine dH ⟨?_⟩);refine kQ (b:=b7) (o:=1) (aI x.key) aA f1 underlying34 rfl yL0 ?_);have hf:=Xu HH.o.dW (by rw [oI.o];exact Cj.o) Hxk.o Yt.o (jX.sb:au w0 w10 (kY p kZ (.slice (some ⟨bM,0,none⟩) c c) t.n 0::aK jv iG (.slice (some ⟨bM,0,none⟩) c c) (cur.flatMap (bY iM))::pt b7 (.cells (bY iM x).toArray jv (0,0))::aK jv iG (.slice (some ⟨bk,off,none⟩) t.bG.length lc) (t.bG.flatMap (bY iM))::F));clear jX f0 f1;refine hf.mono ?_;rintro ee sH ⟨v,rfl,y,hy,rfl,zx⟩;clear hf hy;have hlt2:=aY.xK (k:=x.key) (d:=dd) HH.o.dW.qX;rw [oI.o]at hlt2;have F9:=uQ (Ku (f:=bY iM) (k:=iG) (i:=aY.pos x.key cur.length dd) (x:=x) Yr.o o7 (aY.xK HH.o.dW.qX));have YX:=uQ (HH.o.step fV.o.dW Hx.o H1.o Yt.o)
     rw [oI.o]at F9 YX;rw [oI.o];have hrl:(cur.flatMap (bY iM)).length=iG*c:=by rw [lK Yr.o,oI.o]
     generalize aY.pos x.key c dd=P0 at *
     have c2:(0:Int)<=(P0:Int):=oQ;have c3:(P0:Int)<(c:Int):=oQ;go_wp2_with fail;have hSd:=zx.drew;clear zx;refine gK [6,7] (λw'=>w'.cell? ⟨p,0,none⟩=some (.slice (some ⟨bM,0,none⟩) c c)/\w'.rangeAt b7 0 (bY iM x)) aC ?_;have hG:World.cell? _ ⟨p,0,none⟩=some (.slice (some ⟨bM,0,none⟩) c c)/\World.rangeAt _ b7 0 (bY iM x):=⟨hSd.bI dh 0 rfl,wO (hSd.pk (A:=pt b7 (.cells (bY iM x).toArray jv (0,0))))⟩;refine rP 0 ?_ (y:=bV);refine rP 1 ?_ (y:=jF);refine rP 2 ?_ (y:=eY);refine rt 3 (h:=?_);refine rP 4 ?_ (y:=bV);refine ji 5 aF aC dF (lF (b:=b7) (o:=0) (bY iM x) aA FH rfl yV0 (λw hw=>hw.2)) aQ gQ ?_;refine rP 6 ?_ (y:=kX);clear hG;refine dZ 7 aF aC (λK hK=>?_);refine Jj (vs:=bY iM x) (P0*iG) hSd aF aF rfl (pJ eu) (by rw [o7,hrl];((try simp only [oH,iG,lG,kZ,jv] at *);omega)) yV0 (y7 iM x (DK _)) ?_;intro w12 sW;refine hK _ _ (.inl rfl) ?_;clear hK hSd
     refine fK aC ?_
     try simp only [kW]
     try go_frame
     rw [<-F9.o]at sW;go_wp2_with fail
     go_roundg (t.bG.length-(i+1))
     case measure=>have:=dP.o;((try simp only [oH,iG,lG,kZ,jv] at *);omega)
     case rel=>exact ⟨i+1,_,rfl,dP.o,by first|rfl|go_num,YX.o,by rw [akW];exact oI.o,sW.sb⟩):C:=h
abbrev fG.Xr:=@func236
abbrev fG.Xt:=@ntmps236
abbrev fG.Xu:=@aaZ
open fG in
theorem arp (ok:t.Ok) (hN:t.n<=N) (hNb:N<=134217728) (abZ:t.bG.length<=1073741824) (h:au w0 w (kY p 306 sv t.n t.gB::aK 345 38 sv (t.bG.flatMap (bY lg))::F)) :
  Calls prog 236 #[aW p,.int .i64 N] w (bf λ_ w'=>∃ s' sv',aY.Bd t s' N/\au w0 w' (kY p 306 sv' t.n 0::aK 345 38 sv' (s'.flatMap (bY lg))::F)):=Uz
end
theorem asV (k:ay.Bs) (hk:k.length=32) (v:aJ.iH) (w:World) :
  (Instr.build 345 #[(0,.int .i64 1),(1,.agg (aI k).toArray),(2,.agg (lg v).toArray)]).run prog w=.ok (.agg (bY lg ⟨1,k,v⟩).toArray) w:=by
 have hbk:(aI k).toArray.size=32:=by rw [abC,bP,hk]
 refine (uU [(0,.int .i64 1),(1,.agg (aI k).toArray),(2,.agg (lg v).toArray)] aqr Yb (by
  intro b hp;simp only [ab9,ajW,av2]at hp;have a:(Value.agg (bY lg (⟨0,ay.gu,FX⟩:aY.gy (aJ.iH))).toArray).cells.size=38:=by
   show (bY lg (⟨0,ay.gu,FX⟩:aY.gy (aJ.iH))).toArray.size=38;rw [abC,pG lg _ aU 5 rfl]
  rw [a];rcases hp with rfl|rfl|rfl
  ·exact ⟨0,rfl,by show 0+1<=38;omega⟩
  ·refine ⟨1,?_,?_⟩
   ·exact VA
   ·show 1+(aI k).toArray.size<=38;omega
  ·exact ⟨33,rfl,by show 33+5<=38;omega⟩) w).trans ?_
 rw [show (Value.agg (bY lg (⟨0,ay.gu,FX⟩:aY.gy (aJ.iH))).toArray).cells=(bY lg (⟨0,ay.gu,FX⟩:aY.gy (aJ.iH))).toArray from rfl,U9 lg ⟨0,ay.gu,FX⟩ k v aU hk rfl 5 rfl]
section
variable {m:ay.Bs->Option (aJ.iH)}
theorem adE(h:C:=by
 obtain ⟨t,sv,⟨ok,is,hb⟩,hR⟩:=Xo h;obtain ⟨d,he⟩:=ok.pU k;have hsz:t.bG.length<=1073741824:=by have:=ok.size;((try simp only [lM,qM,uy,ru,qN] at *);omega)
 have Hlen:=uQ (show ∀ x∈t.bG,(bY jT x).length=lM from λx hx=>pG jT x (ok.dW.key x hx) qM (KO _));obtain ⟨la,lc,rfl⟩:=l9 Hlen.o (au.rd (hR.pick bZ)) aU;have hrl:0<(t.bG.flatMap (bY jT)).length:=by rw [lK Hlen.o];have:=ok.dW.qX;((try simp only [lM,qM,uy,ru,qN] at *);omega)
 obtain ⟨bk,rfl⟩:=J3 (hR.pick bZ) hrl;have Hk:=uQ hk;have fV:=uQ ok;have tN:=uQ is;have Hb:=uQ hb;have He:=uQ he;have sV:=uQ hsz;have HB:=uQ hB;have vG:=uQ ok.dW.qX;have AQ:=uQ (show (aI k).length=32 by rw [bP,hk]);clear h hk ok is hb he hsz hB hrl;go_enter ahQ,ahR;go_wp2_with (with_reducible apply jy);refine ⟨jB hR aF aF ?_⟩;intro b4 w4 hS4;go_wp2_with (with_reducible apply jy);refine ⟨jB hS4 aF aF ?_⟩;intro b5 w5 hS5;have hA:au w0 w5 (kY p uy (.slice (some ⟨bk,0,none⟩) t.bG.length lc) t.n t.gB::aK qN lM (.slice (some ⟨bk,0,none⟩) t.bG.length lc) (t.bG.flatMap (bY jT))::pt b4 (.cells (aI k).toArray 34 (0,0))::pt b5 (.cells (jT v).toArray ru (0,0))::F):=hS5.sb;clear hR hS4 hS5;go_wp2_with fail;refine (Xq vG.o hA).mono ?_;rintro ee w7 ⟨v',rfl,rfl,rfl⟩
 go_wp2_with ((with_reducible refine dH ⟨?_⟩);refine kG hA aA (bW (bW (bJ (A:=pt b4 (.cells (aI k).toArray 34 (0,0)))))) underlying34 rfl yZ0 ?_);have hf:=Qj fV.o.dW sV.o Hk.o He.o hA;clear hA;refine hf.mono ?_;rintro ee w8 ⟨v',rfl,x,hx,rfl,oZ⟩;clear hf;have hlt:=aY.xK (k:=k) (d:=d) vG.o;by_cases h1:x.st=1
 ·have hd:decide (x.st=1)=true:=aiC h1;have hxm:=abH hx;have AY:=uQ (PN (f:=bY jT) (k:=lM) (o:=33) (x':=⟨x.st,x.key,v⟩) (vs:=jT v) Hlen.o hx (aht jT x v (fV.o.dW.key x hxm) rfl) (by show 33+qM<=lM;decide));have yH:=uQ (aY.aez fV.o He.o hx h1 v);have D8:=uQ (aY.N7 tN.o (aY.U8 fV.o.dW He.o hx h1 v).2 t.n t.gB);have hrl:(t.bG.flatMap (bY jT)).length=lM*t.bG.length:=lK Hlen.o;clear hx hxm h1;generalize aY.pos k t.bG.length d=P0 at *
  have c0:(0:Int)<=(P0:Int):=oQ;have c1:(P0:Int)<(t.bG.length:Int):=oQ;go_wp2_with fail;have hSd:=oZ.drew;clear oZ;refine gK [6,7,8] (λw'=>w'.cell? ⟨p,0,none⟩=some (.slice (some ⟨bk,0,none⟩) t.bG.length lc)/\w'.rangeAt b5 0 (jT v)) aC ?_;have hG:World.cell? _ ⟨p,0,none⟩=some (.slice (some ⟨bk,0,none⟩) t.bG.length lc)/\World.rangeAt _ b5 0 (jT v):=⟨hSd.bI dh 0 rfl,wO (hSd.pk (A:=pt b5 (.cells (jT v).toArray ru (0,0))))⟩;refine rP 0 ?_ (y:=bV);refine rP 1 ?_ (y:=jF);refine rP 2 ?_ (y:=eY);refine rt 3 (h:=?_);refine rP 4 ?_ (y:=bV);refine ji 5 aF aC dF (lF (b:=b5) (o:=0) (jT v) aA DN rfl aC (λw hw=>hw.2)) aQ gQ ?_;refine rP 6 ?_ (y:=kX);refine rP 7 ?_ (y:=eY);clear hG;refine dZ 8 aF aC (λK hK=>?_);refine Jj (vs:=jT v) (P0*lM+33) hSd aF aF rfl (pJ eu) (by rw [hrl];show P0*lM+33+qM<=_;((try simp only [lM,qM,uy,ru,qN] at *);omega)) aC aA ?_;intro w12 sW
  refine hK _ _ (.inl rfl) ?_;clear hK hSd;refine fK aC ?_
  try simp only [kW]
  try go_frame
  rw [<-AY.o]at sW;go_wp2_with fail
  go_end0
  exact ⟨_,rfl,KP (sv:= .slice (some ⟨bk,0,none⟩) t.bG.length lc) yH.o D8.o (Nat.le_succ_of_le Hb.o) (sW.sb)⟩
 have hd:decide (x.st=1)=false:=aes h1;have hb4:=Hb.o;have hB4:=HB.o;have acv:=sV.o;obtain ⟨hA1,hA2,hA3,Js,abD,abE,Jr,Jt,Ju⟩:=aiA t.n t.gB t.bG.length oQ acv;have Hx:=uQ hx;have H1:=uQ h1;clear hx h1 hb4 hB4 acv;go_wp2_with fail;have hSd:=oZ.drew;clear oZ;have e0:World.cell? _ ⟨p,0,none⟩=some (.slice (some ⟨bk,0,none⟩) t.bG.length lc):=hSd.bI dh 0 rfl;have e1:World.cell? _ ⟨p,1,none⟩=some (.int .i64 t.n):=hSd.bI dh 1 rfl;have e2:World.cell? _ ⟨p,2,none⟩=some (.int .i64 t.gB):=hSd.bI dh 2 rfl
 go_region
 have hcmp:3*t.bG.length<4*(t.n+t.gB+1)\/4*(t.n+t.gB+1)<=3*t.bG.length:=oQ;rcases hcmp with hcmp|hcmp
 focus
  have hci:(3:Int)*(t.bG.length:Int)<4*((t.n:Int)+(t.gB:Int)+1):=oQ;have hrn:=ahS (N:=t.n+1) fV.o (akA _) (by have:=Hb.o;have:=HB.o;((try simp only [lM,qM,uy,ru,qN] at *);omega)) sV.o hSd;rw [show (((t.n+1:Nat)):Int)=(t.n:Int)+1 by ((try simp only [lM,qM,uy,ru,qN] at *);omega)]at hrn;clear hSd e0 e2;go_wp2_with fail;refine hrn.mono ?_;rintro ee w9 ⟨v',rfl,s',sv',EJ,oh⟩;clear hrn e1 hci hcmp;have hok1:=EJ.ok;have TM:=EJ.is tN.o t.n 0;have TP:4*((⟨s',t.n,0⟩:aY.Tb (zH)).n+(⟨s',t.n,0⟩:aY.Tb (zH)).gB+1)<=3*(⟨s',t.n,0⟩:aY.Tb (zH)).bG.length:=by have:=EJ.lo;simp only;((try simp only [lM,qM,uy,ru,qN] at *);omega)
  have hb1:(⟨s',t.n,0⟩:aY.Tb (zH)).n+(⟨s',t.n,0⟩:aY.Tb (zH)).gB<=B:=by have:=Hb.o;simp only;((try simp only [lM,qM,uy,ru,qN] at *);omega)
  have jX:au w0 w9 (kY p uy sv' (⟨s',t.n,0⟩:aY.Tb (zH)).n (⟨s',t.n,0⟩:aY.Tb (zH)).gB::aK qN lM sv' ((⟨s',t.n,0⟩:aY.Tb (zH)).bG.flatMap (bY jT))::pt b4 (.cells (aI k).toArray 34 (0,0))::pt b5 (.cells (jT v).toArray ru (0,0))::F):=oh;clear oh EJ hA1 hA2 hA3 Js abD abE Jr Jt Ju;generalize (⟨s',t.n,0⟩:aY.Tb (zH))=t1 at hok1 TM TP hb1 jX;have LJ:=uQ (show ∀ x∈t1.bG,(bY jT x).length=lM from λx hx=>pG jT x (hok1.dW.key x hx) qM (KO _));obtain ⟨Ui,Oh,rfl⟩:=l9 LJ.o (au.rd (jX.pick bZ)) aU;have AX:=uQ hok1;have LD:=uQ TM;have QV:=uQ TP;have Hb1:=uQ hb1;obtain ⟨d1,he1⟩:=hok1.pU k;have F5:=uQ he1;have hno:m k=none:=by
   obtain ⟨_,q2⟩:=tN.o.some fV.o He.o Hx.o;exact q2 H1.o
  have hsz1:t1.bG.length<=1073741824:=by have:=hok1.size;have:=HB.o;((try simp only [lM,qM,uy,ru,qN] at *);omega)
  clear hok1 TM TP hb1 he1;go_wp2_with ((with_reducible refine dH ⟨?_⟩);refine kG jX aA (bW (bW (bJ (A:=pt b4 (.cells (aI k).toArray 34 (0,0)))))) underlying34 rfl yZ0 ?_);have hf:=Qj AX.o.dW hsz1 Hk.o F5.o jX;clear jX hsz1;refine hf.mono ?_;rintro ee w8b ⟨v',rfl,x1,hx1,rfl,hT⟩;have L6:=uQ hx1
  have Lp:=uQ (show x1.st≠1 from λh=>by
   have:=(LD.o.some AX.o F5.o hx1).1 h;rw [hno]at this;cases this)
  clear hf hx1 hno Hx H1 He fV tN Hlen vG Hb sV hlt hd;go_wp2_with fail
 rotate_left
 focus
  have hci:¬ (3:Int)*(t.bG.length:Int)<4*((t.n:Int)+(t.gB:Int)+1):=oQ;have QV:=uQ hcmp;clear e0 e1 e2 hcmp;go_wp2_with fail;clear hci hA1 hA2 hA3 Js abD abE Jr Jt Ju hlt hd vG sV;obtain ⟨t1,rfl⟩:∃ y,y=t:=⟨t,rfl⟩;obtain ⟨x1,rfl⟩:∃ y,y=x:=⟨x,rfl⟩;obtain ⟨d1,rfl⟩:∃ y,y=d:=⟨d,rfl⟩;obtain ⟨Ui,Jy⟩:∃ y:Option Addr,y=some ⟨bk,0,none⟩:=⟨_,rfl⟩;obtain ⟨Oh,rfl⟩:∃ y,y=lc:=⟨lc,rfl⟩;rw [<-Jy]at hSd;have hT:=hSd;have AX:=uQ fV.o;have LD:=uQ tN.o;have Hb1:=uQ Hb.o;have F5:=uQ He.o;have L6:=uQ Hx.o;have Lp:=uQ H1.o;have LJ:=uQ Hlen.o;clear hSd fV tN Hb He Hx H1 Hlen Jy
 all_goals
  have hrl:(t1.bG.flatMap (bY jT)).length=lM*t1.bG.length:=lK LJ.o;obtain ⟨bk1,rfl⟩:=J3 (hT.pick bZ) (by rw [hrl];have:=AX.o.dW.qX;((try simp only [lM,qM,uy,ru,qN] at *);omega));have AY:=uQ (Ku (f:=bY jT) (k:=lM) (i:=aY.pos k t1.bG.length d1) (x:=⟨1,k,v⟩) LJ.o (pG jT _ Hk.o qM rfl) (aY.xK AX.o.dW.qX));have yH:=uQ (aY.aex AX.o QV.o F5.o L6.o Lp.o Hk.o v);have D8:=uQ (aY.N7 LD.o (aY.OW AX.o.dW F5.o L6.o Lp.o Hk.o v).2 (t1.n+1) t1.gB);have hlt1:=aY.xK (k:=k) (d:=d1) AX.o.dW.qX;have hls:=pG jT (⟨1,k,v⟩:aY.gy (zH)) Hk.o qM rfl;have hwn:IntKind.i64.wrap ((t1.n:Int)+1)=(t1.n:Int)+1:=abR _ (by have:=Hb1.o;have:=HB.o;((try simp only [lM,qM,uy,ru,qN] at *);omega));clear L6 Lp F5 AX LD QV;generalize aY.pos k t1.bG.length d1=P1 at *
  have c0:(0:Int)<=(P1:Int):=oQ;have c1:(P1:Int)<(t1.bG.length:Int):=oQ;have hSd:=hT.drew;clear hT;refine gK [8,9] (λw'=>w'.cell? ⟨p,0,none⟩=some (.slice (some ⟨bk1,0,none⟩) t1.bG.length Oh)/\w'.rangeAt b4 0 (aI k)/\w'.rangeAt b5 0 (jT v)) aC ?_;have hG:World.cell? _ ⟨p,0,none⟩=some (.slice (some ⟨bk1,0,none⟩) t1.bG.length Oh)/\World.rangeAt _ b4 0 (aI k)/\World.rangeAt _ b5 0 (jT v):=⟨hSd.bI dh 0 rfl,wO (hSd.pk (A:=pt b4 (.cells (aI k).toArray 34 (0,0)))),wO (hSd.pk (A:=pt b5 (.cells (jT v).toArray ru (0,0))))⟩;refine rP 0 ?_ (y:=bV);refine rP 1 ?_ (y:=jF);refine rP 2 ?_ (y:=eY);refine rt 3 (h:=?_);refine rP 4 ?_ (y:=bV);refine ji 5 aF aC dF (lF (b:=b4) (o:=0) (aI k) aA underlying34 rfl (by rw [AQ.o];kernel_rfl) (λw hw=>hw.2.1)) aQ gQ ?_;refine ji 6 aF aC dF (lF (b:=b5) (o:=0) (jT v) aA DN rfl aC (λw hw=>hw.2.2)) aQ gQ ?_
  refine rP 7 ?_ (y:=(IW aF aF aF (λw=>ahT k Hk.o v w)));refine rP 8 ?_ (y:=kX);clear hG;refine dZ 9 aF aC (λK hK=>?_);refine Jj (vs:=bY jT ⟨1,k,v⟩) (P1*lM) hSd aF aF rfl (pJ eu) (by rw [hrl,hls];((try simp only [lM,qM,uy,ru,qN] at *);omega)) (by rw [hls];kernel_rfl) (y7 jT _ aA) ?_;intro w12 sW;refine hK _ _ (.inl rfl) ?_;clear hK hSd;refine fK aC ?_
  try simp only [kW]
  try go_frame
  rw [<-AY.o]at sW
  go_wp2_with (first
   |((with_reducible refine dH ⟨?_⟩);refine jC sW aA dh dG aF aC ?_)
   |((with_reducible refine eG ⟨?_⟩);refine jI aQ aA aF pQ fJ dG aC aA ?_;intro wS hS))
  go_end0
  exact ⟨_,rfl,KP (sv:= .slice (some ⟨bk1,0,none⟩) t1.bG.length Oh) yH.o D8.o (by have:=Hb1.o;simp only;((try simp only [lM,qM,uy,ru,qN] at *);omega)) (hS.sb)⟩):C:=h
abbrev fG.ahQ:=@func195
abbrev fG.ahR:=@ntmps195
abbrev fG.ahS:=@arp
abbrev fG.zH:=@aJ.iH
abbrev fG.ahT:=@asV
open fG in
theorem aqG (hB:B<=134217000) (hk:k.length=32) (v:aJ.iH) (h:au w0 w (jV p m B::F)) :
  Calls prog 195 #[aW p,.agg (aI k).toArray,.agg (lg v).toArray] w (bf λ_ w'=>au w0 w' (jV p (aY.put m k v) (B+1)::F)):=adE
end
theorem UA(h:C:=by
 have h0:=au.start W;have h1:=h0.alloc (.cells (bY iM x).toArray jv);have h2:=(h1.alloc (.cells (bY iM y).toArray jv)).drew;have hsz:(W.alloc (.cells (bY iM x).toArray jv)).heap.size=W.heap.size+1:=Array.size_push ..;rw [hsz]at h2
 have r1:bK 1 (.slice (some ⟨W.heap.size,1,none⟩) 32 32) (aI x.key) ((W.alloc (.cells (bY iM x).toArray jv)).alloc (.cells (bY iM y).toArray jv)).drew:=
  ⟨_,_,_,rfl,by rw [bP,hx],λj z hj=>⟨_,rfl,by rw [Ei];exact Ir (h2.pick bZ) j z hj⟩⟩
 have r2:bK 1 (.slice (some ⟨W.heap.size+1,1,none⟩) 32 32) (aI y.key) ((W.alloc (.cells (bY iM x).toArray jv)).alloc (.cells (bY iM y).toArray jv)).drew:=
  ⟨_,_,_,rfl,by rw [bP,hy],λj z hj=>⟨_,rfl,by rw [Ei];exact Ir (h2.pick bJ) j z hj⟩⟩
 have hb:=ZB x.key y.key r1 r2;clear h0 h1 h2 r1 r2 hsz;generalize Lib.compareBytes x.key y.key=r at *
 go_enter Xv,Xw;go_wp2_with fail;have hG:True:=trivial;refine gK [] (λw'=>True) aC ?_;refine rP 0 ?_ (y:=eY);refine rp 1 (hy:=yF0) (h:=?_);refine rP 2 ?_ (y:=eY);refine rp 3 (hy:=yF0) (h:=?_);refine dZ 4 aF aC (λK hK=>?_)
 (refine kM aC aF aF ?_)
 refine hb.mono ?_;rintro e w' ⟨rfl,rfl⟩;refine hK _ _ (.inr (.inr rfl)) ?_;clear hK hb;refine rP 5 ?_ (y:=kR);refine fK aC ?_;clear hG;go_wp2_with fail;go_ret;exact ⟨rfl,1,#[.cells (bY iM x).toArray jv,.cells (bY iM y).toArray jv],by rw [Sort.alloc_eq_grow,Sort.alloc_eq_grow,Sort.grow_grow,Sort.drew_grow];rfl⟩):C:=h
abbrev fG.Xv:=@func259
abbrev fG.Xw:=@ntmps259
open fG in
theorem alk (x y:aY.gy (aJ.iH)) (hx:x.key.length=32) (hy:y.key.length=32) (W:World) :
  Calls prog 259 #[.agg (bY lg x).toArray,.agg (bY lg y).toArray] W λe w'=>e=.returned (.int .i64 (Lib.compareBytes x.key y.key))/\∃ q os',w'=Sort.grow (W.drewN q) os':=UA
open Go.Sort
abbrev Zc:Type:={ x:aY.gy (aJ.iH) // x.key.length=32 }
instance:Inhabited Zc:=⟨⟨⟨0,ay.gu,⟨0,aB.bT.zero,0⟩⟩,rfl⟩⟩
theorem Ut(h:C:=by
 have hlen:∀ x∈l,(bY iM x).length=iG:=λx hx=>pG iM x (hk x hx) lG (DR _);rcases h.nV with ⟨rfl,hn',h'⟩|⟨g,n,cap,cs,rfl,hl,hn',hc,hcm,htk,hp⟩
 ·obtain rfl:l=[]:=by
   cases l with
   |nil=>rfl
   |cons x l=>rw [aiN]at hn';have:=aiX List.length hn';rw [aay,hlen x (.head _)]at this;simp at this
  refine (AnyF.slices_SortFunc_none Qk none 0 (.func (.func II) #[] #[]) w).mono ?_;rintro e w1 ⟨rfl,rfl⟩;exact ⟨_,rfl,[],⟨.refl _,.nil⟩,h⟩
 ·rw [lK hlen,alQ]at hl;obtain rfl:n=l.length:=(Nat.eq_of_mul_eq_mul_right aU hl).symm;let d:Array wV:=(l.attach.map λx=>(⟨x.1,hk x.1 x.2⟩:wV)).toArray;have hd:d.toList.map (·.1)=l:=by
   show (l.attach.map λx=>(⟨x.1,hk x.1 x.2⟩:wV)).map (·.1)=l;rw [ajr];exact List.attach_map_subtype_val l
  have hds:d.size=l.length:=by rw [<-hd,abl,ahN]
  have hke:∀ x:wV,((λx:wV=>bY iM x.1) x).length=iG:=λx=>pG iM x.1 x.2 lG (DR _);have hfl:∀ d:Array wV,(flatK (λx:wV=>bY iM x.1) iG d).toList=(d.toList.map (·.1)).flatMap (bY iM):=λd=>by
   rw [amB hke aU,List.flatMap_map]
  have hH:HoldsK (λx:wV=>bY iM x.1) iG w g 0 d:=anD hp.at (by rw [size_flatK,hds,hfl,hd];exact htk);refine (AnyQ.slices_SortFunc Qk iG Xy Xz (λx:wV=>bY iM x.1) hke (λx v hv=>ajC.1 (y7 iM x.1 (DK _)) v hv) (λx y=>Lib.compareBytes x.1.key y.1.key) (aY.aua λx:wV=>x.1.key) II #[] g 0 cap d w (λargs w=>by kernel_rfl) (λm os dk _ x y=>XA x.1 y.1 x.2 y.2 _) hH hp.lt oQ |> λq=>(by rw [hds]at q;exact q:Calls prog Ql #[.slice (some ⟨g,0,none⟩) l.length cap,.func (.func II) #[] #[]] w _)).mono ?_;rintro e w1 ⟨rfl,d',n',os,hpm,hst,rfl⟩;obtain ⟨q1,q2⟩:=aY.atM (key:=λx:wV=>x.1.key) (by rw [hds];exact hpm) (by rw [hds];exact hst);have hl':d'.toList.length=l.length:=by rw [q1.length_eq,ahN,hds]
  have hS:=ata (n:=n') (os:=os) hp (flatK (λx:wV=>bY iM x.1) iG d');have hsz':(flatK (λx:wV=>bY iM x.1) iG d').size=l.length*iG:=by rw [size_flatK,<-ahN,hl']
  refine ⟨_,rfl,d'.toList.map (·.1),⟨by rw [<-hd];exact q1.map _,akC.2 q2⟩,?_⟩;refine hS.pV ?_ hn' (by simpa [Sort.putCells] using hc) hcm ?_
  ·rw [<-hfl,ahN,hsz']
  ·rw [<-hfl,<-hsz'];refine aur _ ?_;have:l.length*iG<=cap*iG:=am2 _ hn'
   ((try simp only [iG,lG,II,Ql] at *);omega)):C:=h
abbrev fG.Qk:=@Tryz.sortA
abbrev fG.II:Nat:=259
abbrev fG.wV:=@Zc
abbrev fG.Xy:=@Tryz.isAgg345
abbrev fG.Xz:=@Tryz.sizeOf345
abbrev fG.XA:=@alk
abbrev fG.Ql:Nat:=258
open fG in
theorem atH (l:List (aY.gy (aJ.iH))) (hk:∀ x∈l,x.key.length=32) (hn:l.length<=1073741824) (h:au w0 w (aK 345 38 v (l.flatMap (bY lg))::F)) :
  Calls prog 258 #[v,.func (.func 259) #[] #[]] w (bf λ_ w'=>∃ l':List (aY.gy (aJ.iH)),(l'.Perm l/\l'.Pairwise λa b=>¬ b.key<a.key)/\au w0 w' (aK 345 38 v (l'.flatMap (bY lg))::F)):=Ut
open Go.aG
section
variable {m:ay.Bs->Option (aJ.iH)}{t:aY.Tb (aJ.iH)}
theorem Uu(h:C:=by
 obtain ⟨t,sv,⟨ok,is,hb⟩,hR⟩:=XB h;have hsz:t.bG.length<=56000000:=by have:=ok.size;((try simp only [oH,iG,lG,kZ,jv] at *);omega)
 have Hlen:=uQ (show ∀ x∈t.bG,(bY iM x).length=iG from λx hx=>pG iM x (ok.dW.key x hx) lG (DR _));obtain ⟨la,lc,rfl⟩:=l9 Hlen.o (au.rd (hR.pick bZ)) aU;have fV:=uQ ok;have tN:=uQ is;have Hb:=uQ hb;have sV:=uQ hsz;have vG:=uQ ok.dW.qX;clear h ok is hb hB;have hS0:au w0 w (aK jv iG (.slice none 0 0) []::kY p kZ (.slice la t.bG.length lc) t.n t.gB::aK jv iG (.slice la t.bG.length lc) (t.bG.flatMap (bY iM))::F):=au.iW.2 hR;clear hR;go_enter XC,XD;go_wp2_with fail;refine (XE vG.o (hS0.pick bZ)).mono ?_;rintro ee w7 ⟨v,rfl,rfl,rfl⟩;go_wp2_with ((with_reducible refine dH ⟨?_⟩);refine jC hS0 aA dh dG aF aC ?_)
 go_loopg [3,14] t.bG.length (λg oq iq wr=>∃ (i:Nat),g=t.bG.length-i/\i<=t.bG.length/\iq=.int .i64 i /\
  au w0 wr (aK jv iG oq (((t.bG.take i).filter λx=>decide (x.st=1)).flatMap (bY iM))::kY p kZ (.slice la t.bG.length lc) t.n t.gB::aK jv iG (.slice la t.bG.length lc) (t.bG.flatMap (bY iM))::F))
 case atStart=>exact ⟨0,rfl,acn _,rfl,hS0⟩
 case round=>
  obtain ⟨i,rfl,hi,rfl,hS⟩:=hrel;clear hS0;by_cases hlt:i<t.bG.length;rotate_left
  ·obtain rfl:i=t.bG.length:=by ((try simp only [oH,iG,lG,kZ,jv] at *);omega)
   have c1:¬ (t.bG.length:Int)<(t.bG.length:Int):=oQ;rw [ai0]at hS;have hfk:∀ x∈t.bG.filter λx=>decide (x.st=1),x.key.length=32:=λx hx=>fV.o.dW.key x (ai4.1 hx).1;have hs:=XF (t.bG.filter λx=>decide (x.st=1)) hfk (abQ (ak6 _ _) (abQ hsz aU)) hS;clear hlt hi hS hfk;go_wp2_with fail;refine hs.mono ?_;rintro ee w8 ⟨v,rfl,l,⟨h1,h2⟩,oZ⟩;clear hs;have Hl:=uQ (aY.adp fV.o.dW tN.o h1 h2)
   have Hll:=uQ (show l.length<=B from by
    rw [h1.length_eq,<-List.countP_eq_length_filter];have e:t.bG.countP (λx=>decide (x.st=1))=aY.oW t.bG:=by
     unfold aY.oW;refine List.countP_congr λx _=>?_;simp
    have:=fV.o.n;have:=Hb.o;((try simp only [oH,iG,lG,kZ,jv] at *);omega))
   clear h1 h2;go_wp2_with fail;go_ret;exact ⟨_,rfl,l,⟨Hl.o.1,Hl.o.2,Hll.o⟩,au.aqE (Qi fV.o tN.o Hb.o (oZ.sb))⟩
  have c1:(i:Int)<(t.bG.length:Int):=oQ;have hwi:=EN (i:=i);obtain ⟨x,hx⟩:∃ x,t.bG[i]?=some x:=⟨_,aaf hlt⟩;have hxm:=abH hx;have hst:=fV.o.dW.st x hxm;have Hxk:=uQ (fV.o.dW.key x hxm);obtain ⟨bk,off,c',hsv,hcell⟩:=lV Hlen.o (au.rd (hS.pick jS)) hx aU;cases hsv;have o7:=Hlen.o x hxm;have htk:(t.bG.take (i+1)).filter (λx=>decide (x.st=1))=(t.bG.take i).filter (λx=>decide (x.st=1))++[x].filter λx=>decide (x.st=1):=by
   rw [ajf,hx,akf,aof]
  have jl:=uQ htk;have dP:=uQ hlt;have TQ:(((t.bG.take i).filter λx=>decide (x.st=1)).flatMap (bY iM)).length<=2147483648:=by
   rw [lK λy hy=>Hlen.o y (ajq (ai4.1 hy).1)];have h1:=ak6 (λx=>decide (x.st=1)) (t.bG.take i);have h2:=avH i t.bG;have h3:=sV.o
   ((try simp only [oH,iG,lG,kZ,jv] at *);omega)
  clear hx hxm hlt hi htk
  go_wp2_with (first
   |((with_reducible refine dH ⟨?_⟩);refine kQ (b:=bk) (o:=off+i*iG) (bY iM x) aA hcell FH rfl yV0 ?_)
   |(with_reducible apply jd))
  refine ⟨iR FI hS rfl ?_⟩;intro b7 w7 hS7;go_wp2_with (first|((with_reducible refine eG ⟨?_⟩);refine jK (bY iM x).toArray hS7 aA aA zW0 eu yW0 zD0 ?_;intro w10 jX)|(with_reducible apply dH));refine ⟨?_⟩;clear hS hS7 hcell;have f0:w10.cell? ⟨b7,0,none⟩=some (.int .i64 x.st):=jX.bI bJ 0 (by rw [ab5];rfl);by_cases h1:x.st=1;rotate_left
  ·have hst1:((x.st:Int)==1)=false:=by rw [acj];((try simp only [oH,iG,lG,kZ,jv] at *);omega)
   have e9:(t.bG.take (i+1)).filter (λx=>decide (x.st=1))=(t.bG.take i).filter (λx=>decide (x.st=1)):=by
    rw [jl.o,List.filter_cons_of_neg (by rw [aes h1];decide),List.filter_nil,ahB]
   have E9:=uQ e9;clear h1 e9;go_wp2_with fail
   go_roundg (t.bG.length-(i+1))
   case measure=>have:=dP.o;((try simp only [oH,iG,lG,kZ,jv] at *);omega)
   case rel=>exact ⟨i+1,rfl,dP.o,by first|rfl|go_num,by rw [E9.o];exact jX.sb⟩
  ·have hst1:((x.st:Int)==1)=true:=by rw [h1];rfl
   have e9:((t.bG.take (i+1)).filter (λx=>decide (x.st=1))).flatMap (bY iM)=((t.bG.take i).filter (λx=>decide (x.st=1))).flatMap (bY iM)++bY iM x:=by
    rw [jl.o,List.filter_cons_of_pos (by rw [aiC h1]),List.filter_nil,ai5,aiN,am6,ahB]
   have E9:=uQ e9;clear h1 e9
   go_wp2_with (first
    |((with_reducible refine dH ⟨?_⟩);refine kG jX aA dh FH rfl yW0 ?_)
    |(with_reducible apply rV))
   refine ⟨rJ (e:=jv) (sz:=iG) (je:=oH) aC jX aA (cs:=(bY iM x).toArray) rfl (by rw [abC,o7]) aU ?_⟩;intro bN wN hN;go_wp2_with (with_reducible apply oK);refine ⟨sJ jv iG oH aC hN aA aA dh bJ (by rw [abC,o7,Nat.one_mul]) (abG 1) zD0 TQ (by rw [abC,o7];decide) aU (by rw [agQ]) ?_⟩;intro bA nA cA wA hA;go_wp2_with fail;rw [<-E9.o]at hA
   go_roundg (t.bG.length-(i+1))
   case measure=>have:=dP.o;((try simp only [oH,iG,lG,kZ,jv] at *);omega)
   case rel=>exact ⟨i+1,rfl,dP.o,by first|rfl|go_num,hA.sb⟩):C:=h
abbrev fG.XB:=@jV.open
abbrev fG.XC:=@func238
abbrev fG.XD:=@ntmps238
abbrev fG.XE:=@aeh
abbrev fG.XF:=@atH
open fG in
theorem arx (hB:B<=13000000) (h:au w0 w (jV p m B::F)) :
  Calls prog 238 #[aW p] w (bf λv w'=>∃ l:List (aY.gy (aJ.iH)),(aY.kE m (l.map λx=>(x.key,x.val))/\(∀ x∈l,x.st=1/\x.key.length=32)/\l.length<=B)/\au w0 w' (aK 345 38 v (l.flatMap (bY lg))::jV p m B::F)):=Uu
end
open Go.aG
def bF (p:Nat) (m:ay.Bs->Option (aB.bT)) (B:Nat):aO:=λh=>∃ (t:aY.Tb (aB.bT)) (sv:Value),(t.Ok/\t.Is m/\t.n+t.gB<=B)/\nP [kY p 217 sv t.n t.gB,aK 215 36 sv (t.bG.flatMap (bY dQ))] h
theorem uz:nR prog 115=some (.agg (dQ aB.bT.zero).toArray):=aC
section
variable {m:ay.Bs->Option (aB.bT)}{t:aY.Tb (aB.bT)}
open fH in
theorem bF.open (h:au w0 w (bF p m B::F)):∃ (t:aY.Tb (aB.bT)) (sv:Value),(t.Ok/\t.Is m/\t.n+t.gB<=B)/\au w0 w (kY p 217 sv t.n t.gB::aK 215 36 sv (t.bG.flatMap (bY dQ))::F):=Ux
theorem bF.fA (a:t.Ok) (b:t.Is m) (c:t.n+t.gB<=B) (h:au w0 w (kY p 217 sv t.n t.gB::aK 215 36 sv (t.bG.flatMap (bY dQ))::F)):au w0 w (bF p m B::F):=
 au.join h λ_ d=>⟨t,sv,⟨a,b,c⟩,d⟩
abbrev fH.Xm:=@func147
abbrev fH.Xn:=@ntmps147
abbrev fH.oH:Nat:=64
abbrev fH.DL:=@FY
abbrev fH.IG:=@aB.bT
abbrev fH.Qi:=@bF.fA
open fH in
theorem adS (h:au w0 w F):Calls prog 147 #[] w (bf λv w'=>∃ p,v=aW p/\au w0 w' (bF p (λ_=>none) 0::F)):=Uy
abbrev fH.Xo:=@bF.open
abbrev fH.jT:=@dQ
abbrev fH.lM:Nat:=36
abbrev fH.qM:Nat:=3
abbrev fH.KO:=@Ic
abbrev fH.ahO:=@func126
abbrev fH.ahP:=@ntmps126
abbrev fH.Xp:=@uz
abbrev fH.uy:Nat:=217
abbrev fH.FK:=@FY
abbrev fH.ru:Nat:=115
abbrev fH.qN:Nat:=215
abbrev fH.Xq:=@JZ
abbrev fH.Qj:=@Ti
abbrev fH.DN:=@underlying115
abbrev fH.KP:=@bF.fA
open fH in
theorem GH (hB:B<=268435000) (hk:k.length=32) (h:au w0 w (bF p m B::F)) :
  Calls prog 126 #[aW p,.agg (aI k).toArray] w (bf λv w'=>v=.tuple #[.agg (dQ ((m k).getD aB.bT.zero)).toArray,.bool (m k).isSome]/\au w0 w' (bF p m B::F)):=adD
end
section
variable {m:ay.Bs->Option (aB.bT)}{t:aY.Tb (aB.bT)}
abbrev fH.Xr:=@func178
abbrev fH.Xt:=@ntmps178
abbrev fH.Xu:=@Ti
open fH in
theorem agt (ok:t.Ok) (hN:t.n<=N) (hNb:N<=134217728) (abZ:t.bG.length<=1073741824) (h:au w0 w (kY p 217 sv t.n t.gB::aK 215 36 sv (t.bG.flatMap (bY dQ))::F)) :
  Calls prog 178 #[aW p,.int .i64 N] w (bf λ_ w'=>∃ s' sv',aY.Bd t s' N/\au w0 w' (kY p 217 sv' t.n 0::aK 215 36 sv' (s'.flatMap (bY dQ))::F)):=Uz
end
theorem asY (k:ay.Bs) (hk:k.length=32) (v:aB.bT) (w:World) :
  (Instr.build 215 #[(0,.int .i64 1),(1,.agg (aI k).toArray),(2,.agg (dQ v).toArray)]).run prog w=.ok (.agg (bY dQ ⟨1,k,v⟩).toArray) w:=by
 have hbk:(aI k).toArray.size=32:=by rw [abC,bP,hk]
 refine (uU [(0,.int .i64 1),(1,.agg (aI k).toArray),(2,.agg (dQ v).toArray)] aer Ld (by
  intro b hp;simp only [ab9,ajW,av2]at hp;have a:(Value.agg (bY dQ (⟨0,ay.gu,FY⟩:aY.gy (aB.bT))).toArray).cells.size=36:=by
   show (bY dQ (⟨0,ay.gu,FY⟩:aY.gy (aB.bT))).toArray.size=36;rw [abC,pG dQ _ aU 3 rfl]
  rw [a];rcases hp with rfl|rfl|rfl
  ·exact ⟨0,rfl,by show 0+1<=36;omega⟩
  ·refine ⟨1,?_,?_⟩
   ·exact VA
   ·show 1+(aI k).toArray.size<=36;omega
  ·exact ⟨33,rfl,by show 33+3<=36;omega⟩) w).trans ?_
 rw [show (Value.agg (bY dQ (⟨0,ay.gu,FY⟩:aY.gy (aB.bT))).toArray).cells=(bY dQ (⟨0,ay.gu,FY⟩:aY.gy (aB.bT))).toArray from rfl,U9 dQ ⟨0,ay.gu,FY⟩ k v aU hk rfl 3 rfl]
section
variable {m:ay.Bs->Option (aB.bT)}
abbrev fH.ahQ:=@func132
abbrev fH.ahR:=@ntmps132
abbrev fH.ahS:=@agt
abbrev fH.zH:=@aB.bT
abbrev fH.ahT:=@asY
open fH in
theorem OV (hB:B<=134217000) (hk:k.length=32) (v:aB.bT) (h:au w0 w (bF p m B::F)) :
  Calls prog 132 #[aW p,.agg (aI k).toArray,.agg (dQ v).toArray] w (bf λ_ w'=>au w0 w' (bF p (aY.put m k v) (B+1)::F)):=adE
end
abbrev fH.Xv:=@func211
abbrev fH.Xw:=@ntmps211
open fH in
theorem aln (x y:aY.gy (aB.bT)) (hx:x.key.length=32) (hy:y.key.length=32) (W:World) :
  Calls prog 211 #[.agg (bY dQ x).toArray,.agg (bY dQ y).toArray] W λe w'=>e=.returned (.int .i64 (Lib.compareBytes x.key y.key))/\∃ q os',w'=Sort.grow (W.drewN q) os':=UA
open Go.Sort
abbrev Ze:Type:={ x:aY.gy (aB.bT) // x.key.length=32 }
instance:Inhabited Ze:=⟨⟨⟨0,ay.gu,aB.bT.zero⟩,rfl⟩⟩
abbrev fH.Qk:=@Tryz.sortL
abbrev fH.II:Nat:=211
abbrev fH.wV:=@Ze
abbrev fH.Xy:=@Tryz.isAgg215
abbrev fH.Xz:=@Tryz.sizeOf215
abbrev fH.XA:=@aln
abbrev fH.Ql:Nat:=210
open fH in
theorem atJ (l:List (aY.gy (aB.bT))) (hk:∀ x∈l,x.key.length=32) (hn:l.length<=1073741824) (h:au w0 w (aK 215 36 v (l.flatMap (bY dQ))::F)) :
  Calls prog 210 #[v,.func (.func 211) #[] #[]] w (bf λ_ w'=>∃ l':List (aY.gy (aB.bT)),(l'.Perm l/\l'.Pairwise λa b=>¬ b.key<a.key)/\au w0 w' (aK 215 36 v (l'.flatMap (bY dQ))::F)):=Ut
open Go.aG
section
variable {m:ay.Bs->Option (aB.bT)}{t:aY.Tb (aB.bT)}
abbrev fH.XB:=@bF.open
abbrev fH.XC:=@func171
abbrev fH.XD:=@ntmps171
abbrev fH.XE:=@JZ
abbrev fH.XF:=@atJ
open fH in
theorem agz (hB:B<=13000000) (h:au w0 w (bF p m B::F)) :
  Calls prog 171 #[aW p] w (bf λv w'=>∃ l:List (aY.gy (aB.bT)),(aY.kE m (l.map λx=>(x.key,x.val))/\(∀ x∈l,x.st=1/\x.key.length=32)/\l.length<=B)/\au w0 w' (aK 215 36 v (l.flatMap (bY dQ))::bF p m B::F)):=Uu
end
end Go.Proofs.Y
namespace Go
open Go.Sl
variable {P:Program}{ops:Array Oper}{Q:Exit->Act->World->Prop}{K:Act->World->Prop}{l:Option Nat}{n:Nat}
abbrev rf (l:Option Nat):Fence:={ Fence.wide with round:=l }
abbrev dV (K:Act->World->Prop):Exit->Act->World->Prop:=Exit.then K λ_ _ _=>False
theorem Sj:¬ LetsOut (dV K):=λ⟨_,_,h⟩=>h
theorem arS {row:String}{args:Array Value}{w:World}{R:Value->World->Prop} (h:Rows P row args w R):RowsIn (rf l) n P row args w R:=λc cs _=>by
 obtain ⟨v,w',r,s⟩:=h c cs;exact ⟨v,w',r,stepsIn_wide.2 s⟩
theorem aek {o:Oper}{a:Act}{w:World}{N p:Act->World->Prop} (q:∀ c,o.op ≠ .defer c) (k:∀ a w,N a w->p a w) (h:o.wp P a w N (dV K)):o.wpIn (rf l) n P a w p Q:=by
 refine ⟨λ_ _=>trivial,?_⟩;rw [Oper.semAt_eq _ _ _ q];unfold Oper.wp at h;generalize (execOp a.eval o).run P w=r at h ⊢;cases r with
 |ok x s=>
  cases x with
  |value v=>exact k _ _ h
  |skip=>exact k _ _ h
  |defer d=>exact k _ _ h
  |enter f b=>
   refine ⟨(λhd=>by cases hd),?_⟩;refine CallsIn.mono (callsIn_wide.2 h) λe j g=>?_;cases e with
   |returned v=>exact k _ _ g
   |panicked c=>exact False.elim g
   |outgrown=>exact (Sj g).elim
  |row row b=>exact ⟨(λhd=>by cases hd),(arS h).mono λv j g=>k _ _ g⟩
  |round t f m i body=>exact h.elim
  |_=>exact h.elim
 |halt x s=>
  cases x with
  |panic v=>exact False.elim h
  |_=>exact h.elim
theorem Uo {Kr:List Oper} (g:∀ a w,K a w->wpListIn (rf l) n P ops Q Kr a w):∀ (rest:List Oper) (a:Act) (w:World),(∀ o∈rest,∀ c,o.op ≠ .defer c)->wpList P ops (dV K) rest a w->wpListIn (rf l) n P ops Q (rest++Kr) a w
 |[],a,w,_,h=>g _ _ h
 |o::rest,a,w,hd,h=>by
  have i:=Uo g rest;show if Region.wanted o (yielded ops a.tmps)=true then o.wpIn (rf l) n P a w (wpListIn (rf l) n P ops Q (rest++Kr)) Q else (∀ f,o.about P w a.eval=some f->(rf l).fn f)/\wpListIn (rf l) n P ops Q (rest++Kr) (a.put o.dst undef) w
  have b:if Region.wanted o (yielded ops a.tmps)=true then o.wp P a w (wpList P ops (dV K) rest) (dV K)\/(o.asks P a w/\LetsOut (dV K)) else wpList P ops (dV K) rest (a.put o.dst undef) w:=h
  split at b
  ·rename_i d;rw [abL d];rcases b with b|b
   ·exact aek (hd o (.head _)) (λa w h=>i a w (λo e=>hd o (.tail _ e)) h) b
   ·exact (Sj b.2).elim
  ·rename_i d;rw [abB d];exact ⟨λ_ _=>trivial,i _ _ (λo e=>hd o (.tail _ e)) b⟩
abbrev EY (ops:Array Oper):Bool:=ops.toList.all λo=>match o.op with | .defer _=>false|_=>true
theorem UQ (hd:EY ops=true):∀ o∈ops.toList,∀ c,o.op ≠ .defer c:=λo ho c e=>by
 have:=(ajC.1 hd) o ho;rw [e]at this;cases this
theorem adl {rest:List Oper}{a:Act}{w:World} (hd:∀ o∈rest,∀ c,o.op ≠ .defer c) (h:wpList P ops (dV (Q .normal)) rest a w):wpListIn (rf l) n P ops Q rest a w:=by
 have:=Uo (l:=l) (n:=n) (Kr:=[]) (λ_ _ h=>h) rest a w hd h;rw [ahB]at this;exact this
theorem arh {id:Nat}{a:Act}{w:World} (hd:EY ops=true) (h:wpList P ops (dV (Q .normal)) ops.toList a w):(Code.region id ops false).wpIn (rf l) n P Q a w:=
 wpIn_region_list (adl (UQ hd) h)
theorem Me (hd:∀ o∈ops.toList,∀ c,o.op ≠ .defer c):∀ (k:Nat) (ls:Array Bool) (a:Act) (w:World),wpAny P .any ops (dV (Q .normal)) k ls a w->wpAnyIn (rf l) n P .any ops Q k ls a w
 |0,_,_,_,h=>h
 |k+1,ls,a,w,h=>by
  refine ⟨h.1,λi hi=>?_⟩;have h':=h.2 i hi;unfold wpOp at h';unfold wpOpIn;split at h'
  ·rename_i he;simp only [he];exact Me hd k _ _ _ h'
  ·rename_i o he;simp only [he];split at h'
   ·rename_i hw;rw [abL hw];rcases h' with h'|h'
    ·refine aek (hd o ?_) (λa w h=>Me hd k _ a w h) h';rw [<-anO]at he;exact abH he
    ·exact (Sj h'.2).elim
   ·rename_i hw;rw [abB hw];exact ⟨λ_ _=>trivial,Me hd k _ _ _ h'⟩
theorem ari {c:Nat}{a:Act}{w:World} (b:List Nat) (G:World->Prop) (hd:EY ops=true) (d:P.follows .mixedOrders=true)
  (h:nZ P ops (dV (Q .normal)) b G ops.size (Array.replicate ops.size false) a w.drew):(Code.region c ops true).wpIn (rf l) n P Q a w:=
 wpIn_region_any d (Me (UQ hd) _ _ _ _ (XV _ _ _ _ h))
theorem BL {id:Nat}{rest:List Oper}{a:Act}{w:World} (hd:EY rest.toArray=true) (h:∀ K:Act->World->Prop,(∀ a w,Q .normal a w->K a w)->wpList P rest.toArray (Exit.then K λ_ _ _=>False) rest a w):(Code.region id rest.toArray false).wpIn (rf l) n P Q a w:=
 arh hd (by simpa using h _ λ_ _ h=>h)
theorem arj {c:Nat}{a:Act}{w:World} (b:List Nat) (G:World->Prop) (hd:EY ops=true) (d:P.follows .mixedOrders=true)
  (h:∀ K:Act->World->Prop,(∀ a w,Q .normal a w->K a w)->nZ P ops (Exit.then K λ_ _ _=>False) b G ops.size (Array.replicate ops.size false) a w.drew):(Code.region c ops true).wpIn (rf l) n P Q a w:=
 ari b G hd d (h _ λ_ _ h=>h)
theorem ark {q:Nat}{a:Act}{w:World} (pre:List Oper) (o:Oper) (p:List Oper) (y:ops.toList=pre++o::p) (hd:EY ops=true)
  (h:wpList P ops (dV λa w=>Region.wanted o (yielded ops a.tmps)=true/\∃ (l':Nat) (f:FuncId) (tmps:Array Value) (k body:Code),(execOp a.eval o).run P w=.ok (.round l' f tmps k body) w /\
   RoundIn Fence.wide 0 P l' f tmps k body w (λe w'=>∃ v,e=.returned v/\wpList P ops (dV (Q .normal)) p (a.put o.dst v) w')) pre a w) :
  (Code.region q ops false).wp P Q a w:=by
 refine wpIn_wide (n:=0).1 (wpIn_region_list ?_);have b:=UQ hd;rw [y]at b ⊢;refine Uo (λa w i=>?_) pre a w (λo d=>b o (ajm _ d)) h;obtain ⟨j,l',f,tmps,k,body,m,r,s⟩:=i;show if Region.wanted o (yielded ops a.tmps)=true then o.wpIn (rf none) 0 P a w (wpListIn (rf none) 0 P ops Q p) Q else _
 rw [abL j];refine ⟨λ_ _=>trivial,?_⟩;rw [Oper.semAt_eq _ _ _ (b o yD0),m];refine ⟨(λhd=>by cases hd),r,λc t g=>?_⟩;obtain ⟨e,w',⟨v,rfl,u⟩,x⟩:=s c t g;exact ⟨.returned v,w',adl (λo d=>b o (ake _ (.tail _ d))) u,x⟩
theorem arl {a:Act}{w:World}{m:Nat}{d g i j k o l:Oper}{c:Code} (hd:EY #[d,g,i,j,k,o,l]=true)
  (h:∀ K:Act->World->Prop,(∀ a w,c.wp P Q a w->K a w)->wpList P #[d,g,i,j,k,o,l] (dV λa w=>Region.wanted o (yielded #[d,g,i,j,k,o,l] a.tmps)=true/\∃ (l':Nat) (f:FuncId) (tmps:Array Value) (b body:Code),(execOp a.eval o).run P w=.ok (.round l' f tmps b body) w /\
   RoundIn Fence.wide 0 P l' f tmps b body w (λe w'=>∃ v,e=.returned v/\wpList P #[d,g,i,j,k,o,l] (Exit.then K λ_ _ _=>False) [l] (a.put o.dst v) w')) [d,g,i,j,k] a w) :
  (Code.seq (Code.region m #[d,g,i,j,k,o,l] false) c).wp P Q a w:=
 wp_seq (ark [d,g,i,j,k] o [l] rfl hd (h _ λ_ _ h=>h))
open Go.Sl Go.RowKit
section
variable {P:Program}{w0 w:World}{F R L:List aO}{b:Nat}{o o':Obj}{kv:List (Array Value)}{A A':List aO}
theorem Sl.au.putObj (o':Obj) (h:au w0 w (pt b o::R)):au w0 (w.putObj b o') (pt b o'::R):=
 h.jc rfl rfl rfl (by rw [World.putObj_size];exact abG _) (World.putObj_heap_same h.lt) λi hi _=>World.putObj_heap_other hi
theorem Sl.au.MB (h:au w0 w (L++R)):au w0 w (R++L):=h.perm arZ
def Rn (P:Program) (gf:Nat) (lb:Array Value) (kv:List (Array Value)) (w0:World) (A A':List aO):Prop:=
 ∀ (l:Nat) (R:List (Array Value)->List aO),
  (∀ pre x post W U,kv=pre++x::post->au w0 W (R pre++U)->∃ f tmps assign body,(Instr.yield l x).run P W=.ok (.round l f tmps assign body) W /\
   RoundIn Fence.wide 0 P l f tmps assign body W (λe W'=>e=.returned (.bool true)/\au w0 W' (R (pre++[x])++U))) ->
  ∀ W,au w0 W (A++R [])->Calls P gf (#[.func (.yield l) #[] #[]]++lb) W (bf λv W'=>au w0 W' (A'++R kv))
theorem aiy {g:Operand}{ps:Array Tmp}{assign body:Code}{Q:Exit->Act->World->Prop}{a:Act}{gf:Nat}{lb:Array Value}
  (hg:a.eval g=.func (.func gf) #[] lb) (eg:∀ args w,(callFunc gf args).run P w=.ok (.enter gf args) w)
  (GU:Rn P gf lb kv w0 A A') (ab:∀ x∈kv,x.size=ps.size) (R:List (Array Value)->List aO) (h:au w0 w (A++R []))
  (q:∀ (l:Nat) (pre:List (Array Value)) (x:Array Value) (k:List (Array Value)) (U:List aO) (W:World),kv=pre++x::k->au w0 W (R pre++U) ->
   ∀ T,T=(ps.zip x).foldl (λt (p,v)=>t.setIfInBounds p v) a.tmps->assign.wpIn (rf (some l)) 0 P (Exit.then (λa₁ w₁=>∃ M:List aO,au w0 w₁ (M++U)/\∀ U' w₂,au w0 w₂ (M++U')->body.wpIn (rf (some l)) 0 P (λe _ w₃=>e=.normal/\au w0 w₃ (R (pre++[x])++U')) a₁ w₂) (λ_ _ _=>False))
    { tmps:=T,defers:=[] } W)
  (aa:∀ D w',au w0 w' (A'++(R kv++[pt D (.deferred (some []))]))->Q .normal { a with defers:={ target:= .collected D,args:=#[] }::a.defers } w') :
  (Code.rangeFunc g ps assign body).wp P Q a w:=by
 refine (wpIn_wide (n:=0)).1 (wpIn_rangeFunc ?_);intro fn I;have⟨b,d⟩:∃ b:LoopState->Option Code->Loop,b=λst J=>{ state:=st,pending:=J,fn,tmps:=a.tmps,params:=ps,assign,body,defers:=w.heap.size }:=⟨_,rfl⟩;have⟨D,F⟩:∃ D,D=w.heap.size:=⟨_,rfl⟩;have⟨l,G⟩:∃ l,l=D+1:=⟨_,rfl⟩;have⟨i,m⟩:∃ i,i=(w.alloc (.deferred (some []))).alloc (.loop (b .ready none)):=⟨_,rfl⟩;have y:au w0 i (pt l (.loop (b .ready none))::pt D (.deferred (some []))::(A++R [])):=by
  have:=(h.alloc (.deferred (some []))).alloc (.loop (b .ready none));rw [World.size_alloc,<-m,<-F,<-G]at this;exact this
 refine ⟨l,[{ target:= .collected D,args:=#[] }],i,{ target:= .fn (.func gf) lb,args:=#[.func (.yield l) #[] #[]] },i,gf,#[.func (.yield l) #[] #[]]++lb,i,?_,?_,?_,?_,(λh=>by cases h),?_⟩
 ·rw [m,G,F,d];exact run_enterLoop_outer _ _ _ _ _
 ·simp only [resolve,hg];simp [go_sem]
 ·intro f' _;trivial
 ·simp [invoke,go_sem,eg]
 ·refine callsIn_wide.2 ((GU l (λpre=>R pre++[pt l (.loop (b .ready none)),pt D (.deferred (some []))]) ?_ i ?_).mono ?_)
  ·intro pre x k W U o u;have f:au w0 W (pt l (.loop (b .ready none))::(R pre++(pt D (.deferred (some []))::U))):=by
    rw [ab6]at u;exact u.perm auH
   have z:=f.at;have K:=run_yield (P:=P) (args:=x) z (by rw [d];exact ab x (by rw [o];simp));refine ⟨_,_,_,_,K,roundIn_of_wpIn trivial ?_⟩
   have L:=q l pre x k (pt D (.deferred (some []))::U++[pt l (.loop (b .ready none))]) W o (f.perm (by
    rw [<-ajK,<-ab6];exact (arZ (l₁:=[pt l (.loop (b .ready none))]) (l₂:=R pre++(pt D (.deferred (some []))::U))))) _ rfl
   have N:((b .ready none).params.zip x).foldl (λtmps (t,a)=>tmps.setIfInBounds t a) (b .ready none).tmps=(ps.zip x).foldl (λt (p,v)=>t.setIfInBounds p v) a.tmps:=by rw [d]
   rw [N];have H:(b .ready none).assign=assign:=by rw [d]
   have O:(b .ready none).body=body:=by rw [d]
   rw [H,O];refine wpIn_mono L ?_;intro e a1 S j;cases e with
   |normal=>
    have⟨M,hM,V⟩:=j
    have r:au w0 S (pt l (.loop (b .ready none))::(M++(pt D (.deferred (some []))::U))):=hM.perm (by
     rw [<-ab6];exact arZ (l₁:=M++(pt D (.deferred (some []))::U)) (l₂:=[pt l (.loop (b .ready none))]))
    have B:=r.putObj (.loop { b .ready none with state:= .busy });refine ⟨_,run_beginRound r.at (by rw [d]),?_⟩
    refine wpIn_mono (V (pt D (.deferred (some []))::U++[pt l (.loop { b .ready none with state:= .busy })]) _ (B.perm (by
     rw [<-ajK,<-ab6];exact (arZ (l₁:=[pt l (.loop { b .ready none with state:= .busy })]) (l₂:=M++(pt D (.deferred (some []))::U)))))) ?_
    rintro H a2 X ⟨rfl,C⟩
    have s:au w0 X (pt l (.loop { b .ready none with state:= .busy })::(R (pre++[x])++(pt D (.deferred (some []))::U))):=C.perm (by
     rw [<-ab6];exact arZ (l₁:=R (pre++[x])++(pt D (.deferred (some []))::U)) (l₂:=[pt l (.loop { b .ready none with state:= .busy })]))
    refine ⟨_,_,run_endRound none s.at,rfl,?_⟩;have E:=s.putObj (.loop (b .ready none));have Y:(Obj.loop { { b .ready none with state:= .busy } with state:=if (none:Option Code).isNone then .ready else .done,pending:=none })=.loop (b .ready none):=by rw [d];rfl
    rw [Y];refine E.perm ?_;rw [ab6];exact auH.symm
   |exit id=>exact j.elim
   |goto t=>exact j.elim
   |ret=>exact j.elim
   |panic c=>exact j.elim
   |outgrown=>exact j.elim
  ·refine y.perm ?_;rw [<-ab6];exact (arZ (l₁:=[pt l (.loop (b .ready none)),pt D (.deferred (some []))]) (l₂:=A++R []))
  ·rintro e Z ⟨v,rfl,u⟩
   have f:au w0 Z (pt l (.loop (b .ready none))::(A'++(R kv++[pt D (.deferred (some []))]))):=u.perm (by
    rw [<-ab6,<-ab6];exact auH)
   refine ⟨none,_,by have:=run_endLoop (P:=P) f.at (by rw [d];simp);rw [show (b .ready none).pending=none by rw [d]]at this;exact this,?_⟩;exact aa D _ (f.putObj _).drop
theorem aoI {fn:Func}{tmps:Array Value}{K:Ending->World->Prop}{D:Nat}{v:Value} (h:au w0 w (pt D (.deferred (some []))::F)) (hv:∀ w,(results fn tmps).run P w=.ok v w) (hK:∀ w',au w0 w' F->K (.returned v) w') :
  LeavesInM Fence.wide 0 P fn tmps K [{ target:= .collected D,args:=#[] }] .returning w:=
 ⟨by simp,.inl ⟨_,_,rfl,run_takeDeferred h.at,⟨_,hv _,hK _ ((h.putObj (.deferred none)).drop)⟩⟩⟩
def SS (P:Program) (fn:Func) (K:Ending->World->Prop):Exit->Act->World->Prop
 |.normal,a,w | .ret,a,w=>LeavesInM Fence.wide 0 P fn a.tmps K a.defers .returning w
 |_,_,_=>False
theorem ZN {f:FuncId}{b:Func}{c:Code}{args:Array Value}{K:Ending->World->Prop} (hf:P.funcs[f]?=some b) (g:b.body=some c)
  (h:c.wp P (SS P b K) { tmps:=args++Array.replicate (b.ntmps-args.size) undef,defers:=[] } w):Calls P f args w K:=
 (callsIn_wide).1 (callsIn_of_wp_marks hf g trivial (wpIn_wide.2 (wp_mono h λe a w d=>by
  cases e with
  |normal=>exact d
  |ret=>exact d
  |_=>exact d.elim)) rfl)
theorem al9 {fn:Func}{a:Act}{K:Ending->World->Prop}{D:Nat}{v:Value} (ha:a.defers=[{ target:= .collected D,args:=#[] }]) (h:au w0 w (pt D (.deferred (some []))::F)) (hv:∀ w,(results fn a.tmps).run P w=.ok v w)
  (hK:∀ w',au w0 w' F->K (.returned v) w'):SS P fn K .normal a w:=by
 exact afY
end
open Go
theorem af8(h:C:=by
 generalize ay.read (l.drop aP)=r at *
 obtain ⟨e,n,er⟩:=r;obtain rfl:er=0:=hz;have Hn:=uQ (show 9<=n/\n<=l.length-aP from ⟨fV.o.1,hN⟩);have kV:=uQ (show e.key.length=32 from Ec.o);clear hN vH Ec fV
 try clear hz
 simp only at yJ hS2;have hw:IntKind.i64.wrap ((aP:Int)+(n:Int))=((aP+n:Nat):Int):=by
  rw [abR _ (by have:=Hn.o;have:=Hl.o;omega)];omega
 have hlen:(jw fs).length<=2147483648:=by
  rw [Tn sK.o];have:=vk.o;have:=Hl.o;omega
 go_wp2_with (first
  |((with_reducible refine ql ⟨?_⟩);refine qA aQ ?_;intro bE wE hE)|((with_reducible refine mY ⟨?_⟩);first|(refine jk aQ aA aA fQ fJ sQ ?_;intro wS hS)|(refine jk (e:=ay.iL) (da:=none) (dn:=0) (dc:=0) aQ aA aA rfl fJ sQ ?_;intro wS hS))|((with_reducible refine xA ⟨?_⟩);refine xU aQ aA dh fQ ?_)
  |((with_reducible refine MG ⟨?_⟩);refine Qp aA aA aA (λw=>ag1 e kV.o da _ dc aP n w) ?_)
  |((with_reducible refine rV ⟨?_⟩);refine rJ (e:=154) (sz:=36) (je:=80) aC aQ aF (cs:=nU ⟨e,aP,n⟩ (.slice da e.data.length dc)) rfl (xB _ _ kV.o) dG ?_;intro bN wN hN)
  |((with_reducible refine oK ⟨?_⟩);refine sJ 154 36 80 aC aQ aA aA dh dh ((xB _ _ kV.o).trans aU) (abG 1) (Jm _ _ _ _) hlen (by rw [xB _ _ kV.o];decide) aU rfl ?_;intro bA nA cA wA hA))
 go_roundg (l.length-(aP+n))
 case measure=>have:=Hn.o;omega
 case rel=>
  refine ⟨aP+n,fs++[(⟨e,aP,n⟩,.slice da e.data.length dc)],rfl,by have:=vk.o;omega,by have:=Hn.o;have:=vk.o;omega,by rw [aay,ai8];have:=vk.o;have:=Hn.o;omega,by first|rfl|go_num,?_,⟨k,by have:=Hn.o;have:=Hk.o;omega,?_⟩,?_⟩
  ·intro p hp;rw [ahc]at hp;rcases hp with hp|hp
   ·exact sK.o p hp
   ·rw [acS]at hp;subst hp;exact kV.o
  ·rw [yJ.o,acy,ab6];rfl
  ·rw [aa9,aal];have e9:jw [((⟨e,aP,n⟩:ay.fO),Value.slice da e.data.length dc)]=(nU ⟨e,aP,n⟩ (.slice da e.data.length dc)).toList:=by
    unfold jw nU;simp
   rw [e9];have h10:au w0 wA (cZ (.slice da e.data.length dc) e.data::kT fs::aK 154 36 (.slice (some ⟨bA,0,none⟩) nA cA) (jw fs++(nU ⟨e,aP,n⟩ (.slice da e.data.length dc)).toList)::F):=hA.sb;exact (au.fP.2 h10).bZ):C:=h
theorem aga(h:C:=by
 have hfin:=uQ (show ay.eF l=(fs.map (·.1),aP,(ay.read (l.drop aP)).2.2) by
  rw [vH.o];simp only [ay.pY];rw [abB vC.o,abL hz,ahB])
 have c9:((ay.read (l.drop aP)).2.2==0)=false:=by rw [acj];exact hz
 clear hz vH;go_wp2_with (first|((with_reducible refine ql ⟨?_⟩);refine qA aQ ?_;intro bE wE hE)|((with_reducible refine mY ⟨?_⟩);first|(refine jk aQ aA aA fQ fJ sQ ?_;intro wS hS)|(refine jk (e:=ay.iL) (da:=none) (dn:=0) (dc:=0) aQ aA aA rfl fJ sQ ?_;intro wS hS))|((with_reducible refine xA ⟨?_⟩);refine xU aQ aA dh fQ ?_))
 go_ret3
 refine ⟨_,rfl,fs,u5,by rw [hfin.o],sK.o,?_,au.sb aQ⟩;rw [hfin.o];rfl):C:=h
theorem agc(h:C:=by
 have hlv:(λs=>aJ.kF s (kv.take (i+1)))=λs=>aJ.kF s (kv.take i):=by
  funext s
  rw [jl.o,aJ.Oj,abB (λh=>hc h.1),Int.add_zero]
 have Hlv:=uQ hlv;rw [Bool.not_eq_true]at hc;rw [hc];clear hlv hc;go_wp2_with fail;refine wpIn_cond_false aA ?_;refine wpIn_skip ?_;go_wp2_with fail;rw [<-Hlv.o]at h13;refine ⟨trivial,?_⟩
 have h15:au w0 vU (fB ps last pi uv tv::pt b2 (.cells #[aW ps] 103 (0,0))::pt b4 (.cells #[.map (some bm)] 246 (0,0))::oM bm (λs=>aJ.kF s (kv.take (i+1))) ::
  bF pi (aY.jE (aJ.jH (kv.take (i+1)))) (i+1)::aK 205 3 uv (us.flatMap dO)::pt b3 (.cells #[aW pg] 256 (0,0))::(F++U')):=h13.sb
 rw [<-LC.o]at h15;exact h15):C:=h
theorem agh(h:C:=by
 refine wpIn_cond_true aA ?_;refine BL aA λK10 hK10=>?_;go_wp2_with fail;rw [<-Hlv.o]at nJ;refine ⟨trivial,?_⟩
 have h15:au w0 wW (fB ps last pi uv tv::pt b2 (.cells #[aW ps] 103 (0,0))::pt b4 (.cells #[.map (some bm)] 246 (0,0))::oM bm (λs=>aJ.kF s (kv.take (i+1))) ::
  bF pi (aY.jE (aJ.jH (kv.take (i+1)))) (i+1)::aK 205 3 uv (us.flatMap dO)::pt b3 (.cells #[aW pg] 256 (0,0))::(F++U')):=nJ.sb
 rw [<-LC.o]at h15;exact h15):C:=h
theorem VI(k:G)(h:RowKit.Hid G->C:=by
 intro fM
 have vC:=uQ (show l.drop aP≠[] by
  intro h0;have:=aiX List.length h0;rw [abJ]at this;have:=dP.o;simp only [ajw]at *
  omega)
 revert vC;exact fM.o):C:=h (uQ k)
theorem aeN(h:C:=by
 have c1:¬ (aP:Int)<(l.length:Int):=oQ
 have hfin:=uQ (show ay.eF l=(fs.map (·.1),aP,0) by
  rw [vH.o,aiU oQ];cases k <;> simp [ay.pY])
 clear hlt hat;go_wp2
 go_ret3
 refine ⟨_,rfl,fs,by rw [hfin.o],λa b hm=>sK.o _ hm,u5,?_,hS⟩;rw [hfin.o];rfl):C:=h
theorem Vk(k:G)(h:RowKit.Hid G->C:=by
 intro fM;unfold Oper.wp execOp;simp only [resolve,invoke,builtin,aii,aiV,acz,akg,aij,ajz,hv,hy,hr];exact fM.o):C:=h (uQ k)
theorem Vl(h:C:=by
 unfold Oper.wp execOp;simp only [hx,hy,am8,avX,aii,hr,acz,aiV];exact hK _ _ h):C:=h
theorem Pe(h:C:=by
 go_wp2_with fail;go_ret;exact ⟨_,rfl,aiX Value.bool He.o,HB.o⟩):C:=h
theorem aeJ(h:C:=by
 rw [abB (by rw [t];decide)]at hP;have e1:(P++rest).take 32=x.key:=by rw [<-hP,ab6,ajj oQ,acE oQ]
 have e2:P.drop 32=x.data:=by rw [<-hP,List.drop_append,aiU oQ,hk];simp
 rw [e1,e2,a];obtain ⟨dB,key,data⟩:=x;simp only at t ⊢;rw [t];rfl):C:=h
theorem O5(k:G)(h:RowKit.Hid G->C:=by
 intro fM;have hwi:IntKind.i64.wrap ((i:Int)+1)=(i:Int)+1:=abR _ (by have:=Hlen.o;omega);revert hwi;exact fM.o):C:=h (uQ k)
theorem aeR(k:G)(h:RowKit.Hid G->C:=by
 intro fM;rw [KF _ _ _ (λj=>((M.dU++[dw.iZ]).getD j dw.iZ).aN.length),EX hn];have e0:((M.dU++[dw.iZ]).getD M.dU.length dw.iZ).aN.length=0:=by simp [dw.iZ]
 rw [e0,aiO];refine aG.Xa (g:=λj=>((M.dU++[dw.iZ]).getD j dw.iZ).aN.length) (h:=λj=>(M.file j).aN.length) λp hp=>?_;revert e0 p hp;exact fM.o):C:=h (uQ k)
theorem Vt(h:C:=by
 rw [OU _ _ _ _ (by rw [bP,bP,hk,hz];decide),Ig (by rw [bP,bP,hk,hz])]):C:=h
theorem ae4(h:C:=by
 rw [ajg,ad2,ad2]at this;unfold vM;have e1:(48:UInt8)<=c:=UInt8.le_iff_toNat_le.2 this.1;have e2:c<=57:=UInt8.le_iff_toNat_le.2 this.2;simp [e1,e2]):C:=h
theorem Vw(h:C:=by
 simp only [aG.file,abY];rw [aiS this]):C:=h
theorem Pj(k:G)(h:RowKit.Hid G->C:=by
 intro fM;refine ⟨rfl,_,Il rfl h9 aA dh underlying36 rfl aC,?_⟩;exact fM.o):C:=h (uQ k)
theorem afs(h:C:=by
 go_wp2_with fail
 go_roundg (0+k)
 case measure=>omega
 case rel=>exact ⟨k,rfl,Nat.le_of_succ_le hk'.o,by first|rfl|go_num,He.o.trans Hf.o,hS5⟩):C:=h
theorem Vy(h:C:=by
 go_wp2_with fail
 go_ret2
 rw [Hf.o];exact ⟨_,rfl,rfl,HS.o⟩):C:=h
theorem af5(h:C:=by
 have h4:(0:Int)<=(n:Int):=oQ;have h5:(n:Int).toNat=n:=oQ;have h6:n<=cap:=oQ;go_simp):C:=h
end Go
namespace Go.aJ
open Go.ay (Bs)
open Go.aY
theorem aeC (l:List (Bs×iH)) (p:Bs×iH):jH (l++[p])=if p.2.dB=0 then jH l++[(p.1,p.2.jf)] else jH l:=by
 unfold jH;rw [aof];by_cases h:p.2.dB=0
 ·rw [abL h,List.filter_cons_of_pos (by rw [aiC h]),List.filter_nil,acy];rfl
 ·rw [abB h,List.filter_cons_of_neg (by rw [aes h];decide),List.filter_nil,ahB]
theorem OX {l:List (Bs×iH)} (h:l.Pairwise λa b=>a.1<b.1):(jH l).Pairwise λa b=>a.1<b.1:=by
 unfold jH;rw [akC];exact h.filter _
theorem Oj (s:Int):∀ (l:List (Bs×iH)) (p:Bs×iH),kF s (l++[p])=kF s l+(if yM p.2=true/\p.2.jf.aZ=s then p.2.jf.size else 0)
 |[],p=>by simp [kF]
 |q::l,p=>by
  have:=Oj s l p;simp only [ajK,kF];omega
theorem Us (s:Int){b:Int} (hb:0<=b):∀ (l:List (Bs×iH)),(∀ p∈l,0<=p.2.jf.size/\p.2.jf.size<=b)->0<=kF s l/\kF s l<=b*l.length
 |[],_=>by simp [kF]
 |q::l,h=>by
  obtain ⟨i1,i2⟩:=Us s hb l λp hp=>h p (.tail _ hp);obtain ⟨j1,j2⟩:=h q (.head _);have e:b*((q::l).length:Int)=b*l.length+b:=by rw [aiT,Int.natCast_succ,Int.mul_add,Int.mul_one]
  rw [e];simp only [kF];split <;> omega
structure gX where
 aZ:Int
 size:Int
 live:Int
def pI (kv:List (ay.Bs×iH)) (u:gX):gX:=⟨u.aZ,u.size,kF u.aZ kv⟩
def half (kv:List (ay.Bs×iH)) (us:List gX) (i:Nat):List gX:=(us.take i).map (pI kv)++us.drop i
section
variable {kv:List (ay.Bs×iH)}{us:List gX}{i:Nat}{u:gX}
theorem TJ:(half kv us i).length=us.length:=by
 unfold half;rw [aay,abl,<-aay,aja]
theorem ane:half kv us us.length=us.map (pI kv):=by unfold half;rw [ai0,awm,ahB]
theorem anf (h:us[i]?=some u):(half kv us i)[i]?=some u:=by
 unfold half;have hi:=(abM.1 h).1;have e:((us.take i).map (pI kv)).length=i:=by rw [abl,abA];omega
 rw [aiP oQ,e,auP,anv,aoe];exact h
theorem ang (h:us[i]?=some u):(half kv us i).set i (pI kv u)=half kv us (i+1):=by
 obtain ⟨hi,rfl⟩:=abM.1 h;have e:((us.take i).map (pI kv)).length=i:=by rw [abl,abA];omega
 unfold half;rw [List.set_append_right _ _ oQ,e,auP,ajB hi,List.set_cons_zero,ajf,aaf hi,akf,acy,ab6]
 rfl
end
open Go.ay (Bs fO)
def C9 (l:List fO):Bool:=match l.getLast? with
 |some f=>f.e.dB==2
 |none=>false
abbrev qB:Type:=Int->Bs×Int
def split (bt:qB) (ns:List Int):Nat->Nat×Int
 |0=>(0,0)
 |i+1=>if (bt (ns.getD i 0)).2≠0 then (0,(bt (ns.getD i 0)).2) else if (ay.eF (bt (ns.getD i 0)).1).2.2=0/\C9 (ay.eF (bt (ns.getD i 0)).1).1=true then (i+1,0) else split bt ns i
theorem WW (bt:qB) (ns:List Int):∀ i,(split bt ns i).1<=i
 |0=>abG 0
 |i+1=>by
  have:=WW bt ns i;unfold split;split
  ·exact acn _
  split
  ·exact abG _
  ·omega
structure gI where
 auW:Int
 aZ:Int
 aP:Int
def gI.zero:gI:=⟨0,0,0⟩
def zV (s:Int) (aP:Nat):gI:=if aP=0 then ⟨1,s,0⟩ else ⟨2,s,aP⟩
def qm (bt:qB):List Int->Option (gI×Int)
 |[]=>none
 |s::l=>if (bt s).2≠0 then some (gI.zero,(bt s).2) else if (ay.eF (bt s).1).2.2≠0 then some (zV s (ay.eF (bt s).1).2.1,13) else qm bt l
def jP (bt:qB) (l:List Int):List fZ:=l.flatMap λs=>(ay.eF (bt s).1).1.map λf=>(s,f)
def tK (bt:qB) (l:List Int):List gX:=l.map λs=>⟨s,((bt s).1.length:Int),0⟩
theorem ML (bt:qB):∀ (l k:List Int),qm bt l=none->qm bt (l++k)=qm bt k
 |[],_,_=>rfl
 |s::l,k,h=>by
  unfold qm at h;rw [ajK];show (if (bt s).2≠0 then _ else if (ay.eF (bt s).1).2.2≠0 then _ else qm bt (l++k))=_;split at h
  ·cases h
  ·rename_i h1;rw [abB h1];split at h
   ·cases h
   ·rename_i h2;rw [abB h2];exact ML bt l k h
theorem akL {bt:qB}{s:Int}{pre a:List Int} (b:qm bt pre=none) (h:(bt s).2≠0):qm bt (pre++s::a)=some (gI.zero,(bt s).2):=by
 rw [ML bt _ _ b];unfold qm;rw [abL h]
theorem akM {bt:qB}{s:Int}{pre a:List Int} (b:qm bt pre=none) (h:(bt s).2=0) (c:(ay.eF (bt s).1).2.2≠0):qm bt (pre++s::a)=some (zV s (ay.eF (bt s).1).2.1,13):=by
 rw [ML bt _ _ b];unfold qm;rw [abB (λd=>d h),abL c]
theorem akK {bt:qB}{s:Int}{pre:List Int} (b:qm bt pre=none) (h:(bt s).2=0) (c:(ay.eF (bt s).1).2.2=0):qm bt (pre++[s])=none:=by
 rw [ML bt _ _ b];unfold qm;rw [abB (λa=>a h),abB (λa=>a c)];rfl
theorem agK (bt:qB) (l:List Int) (s:Int):jP bt (l++[s])=jP bt l++(ay.eF (bt s).1).1.map λf=>(s,f):=by
 unfold jP;rw [ai5,aiN,am6,ahB]
theorem auM (bt:qB) (l:List Int) (s:Int):tK bt (l++[s])=tK bt l++[⟨s,((bt s).1.length:Int),0⟩]:=by
 unfold tK;rw [acy];rfl
def xG (bt:qB) (ns:List Int):Int×Int:=
 if (split bt ns ns.length).2≠0 then (0,(split bt ns ns.length).2) else if (split bt ns ns.length).1=0 then (-1,0) else (ns.getD ((split bt ns ns.length).1-1) 0,0)
end Go.aJ
namespace Go.aY
open Go.ay (Bs)
open Go.aB (bT)
open Go.aJ (iH)
section
variable {V:Type}
def jE (l:List (Bs×V)):Bs->Option V:=l.foldl (λm p=>put m p.1 p.2) λ_=>none
theorem UF (l:List (Bs×V)) (p:Bs×V):jE (l++[p])=put (jE l) p.1 p.2:=by unfold jE;rw [asl];rfl
theorem adK:∀ (n:Nat){l:List (Bs×V)},l.length=n->l.Pairwise (λa b=>a.1<b.1)->∀ k v,(k,v)∈l↔jE l k=some v
 |0,l,hn,_,k,v=>by
  obtain rfl:l=[]:=ajn hn;exact ⟨(λh=>by cases h),(λh=>by cases h)⟩
 |n+1,l,hn,hs,k,v=>by
  obtain ⟨l',p,rfl⟩:∃ l' p,l=l'++[p]:=⟨l.dropLast,l.getLast (by intro e;rw [e]at hn;cases hn),(List.dropLast_concat_getLast _).symm⟩;have hn':l'.length=n:=by rw [aay]at hn;simpa using hn
  obtain ⟨s1,_,s3⟩:=ajJ.1 hs;have ih:=adK n hn' s1 k v;rw [UF,ahc,acS];show _↔(if k=p.1 then some p.2 else jE l' k)=some v;by_cases hk:k=p.1
  ·rw [abL hk];constructor
   ·rintro (h|h)
    ·exact absurd (hk ▸ s3 _ h p (.head _)) (avR _)
    ·rw [<-h]
   ·intro h;exact .inr (by rw [hk,<-ajH h])
  ·rw [abB hk,<-ih];exact ⟨λh=>h.elim id λe=>absurd (aiX Prod.fst e) hk,.inl⟩
theorem UE {l:List (Bs×V)} (hs:l.Pairwise λa b=>a.1<b.1):kE (jE l) l:=⟨hs,adK _ rfl hs⟩
end
end Go.aY
namespace Go.aB
open Go.aG
theorem aS.WS {L:aS}{M:aG}{K:Nat} (h:M.Ok K):(L.fA M).1.2.Ok (K+1):=by
 unfold aS.fA;split;· exact h.mono (akA K)
 split
 ·split <;> exact h.dY _
 ·exact h.mono (akA K)
theorem aS.akR (L:aS) (M:aG) (b:Bs):L.begin M b=if (L.fA M).2=0 then (L.fA M).1.1.nC (L.fA M).1.2 b else ((L.fA M).1,bT.zero,(L.fA M).2):=rfl
theorem JV (n:Int):(name n).size<=9223372036854775807:=by
 unfold name;split
 ·decide
 ·show (jW++lu n.toNat 8).toArray.size<=_;rw [abC,aay,zU];decide
theorem aS.am4 {L:aS}{M:aG}{K:Nat} (h:M.Ok K) (b:Bs):(L.grow M b).1.2.Ok (K+1):=by
 unfold aS.grow;split;· exact h.mono (akA K)
 split <;> exact h.append _ _
theorem aS.akQ {L:aS}{M:aG}{K:Nat} (h:M.Ok K) (b:Bs):(L.nC M b).1.2.Ok (K+3):=by
 have h1:=h.dM (name L.next);have h2:=h1.append (name L.next) (dL++b);have h3:=h2.dA (name L.next);unfold aS.nC;split;· exact h.mono oQ
 split;· exact h1.mono oQ
 split;· exact h2.mono oQ
 split;· exact h3
 exact h2.mono oQ
theorem aS.akj {L:aS}{M:aG}{K:Nat} (h:M.Ok K) (x:ay.aT):(L.append M x).1.2.Ok (K+4):=by
 unfold aS.append;split;· exact h.mono oQ
 split;· exact (aS.am4 h _).mono oQ
 unfold aS.begin;split
 ·exact aS.akQ (aS.WS h) _
 ·exact (aS.WS h).mono oQ
theorem aS.MV (L:aS) (M:aG):L.jO M=if (L.append M gq).2.2≠0 then ((L.append M gq).1,0,(L.append M gq).2.2)
 else if ((L.append M gq).1.2.dY (name (L.append M gq).2.1.aZ)).2≠0 then (((L.append M gq).1.1,((L.append M gq).1.2.dY (name (L.append M gq).2.1.aZ)).1),0,((L.append M gq).1.2.dY (name (L.append M gq).2.1.aZ)).2)
 else if (((L.append M gq).1.2.dY (name (L.append M gq).2.1.aZ)).1.fU).2≠0 then (((L.append M gq).1.1,(((L.append M gq).1.2.dY (name (L.append M gq).2.1.aZ)).1.fU).1),0,(((L.append M gq).1.2.dY (name (L.append M gq).2.1.aZ)).1.fU).2)
 else (({ (L.append M gq).1.1 with on:=false,dK:=0 },(((L.append M gq).1.2.dY (name (L.append M gq).2.1.aZ)).1.fU).1),(L.append M gq).2.1.aZ,0):=rfl
def aS.read (L:aS) (M:aG) (q:bT):ay.aT×Int:=
 match L.at q.aZ with
 |none=>(ay.iL,9)
 |some _=>
  if (M.read (name q.aZ) q.aP q.size).2≠0 then (ay.iL,(M.read (name q.aZ) q.aP q.size).2)
  else if (ay.read (M.read (name q.aZ) q.aP q.size).1).2.2≠0 then (ay.iL,(ay.read (M.read (name q.aZ) q.aP q.size).1).2.2)
  else if (ay.read (M.read (name q.aZ) q.aP q.size).1).2.1≠(M.read (name q.aZ) q.aP q.size).1.length then (ay.iL,4)
  else ((ay.read (M.read (name q.aZ) q.aP q.size).1).1,0)
theorem Ik (l:Bs):(ay.read l).1.key.length=32:=by
 unfold ay.read;dsimp only;split;· rfl
 split;· rfl
 split;· rfl
 split;· rfl
 split
 ·rename_i h1 h2 h3 h4 h5;simp only [abA,abJ];simp only [Nat.not_lt]at h3;omega
 ·rfl
theorem ard {K:Nat}{M:aG} (h:M.Ok K) (s:ByteArray) (a n:Int):(M.read s a n).1.length<=16777216:=by
 unfold aG.read;dsimp only;split;· simp
 split;· simp
 rename_i i _;have:=(h.file i).zD;split;· simp
 split;· simp
 simp only [abA,abJ];omega
end Go.aB
