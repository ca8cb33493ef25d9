import Derived.Test.YtadhomdmbcldkaaGreatDoorJ1
set_option linter.unusedSimpArgs false
variable {C E:Prop}
open Go.Proofs.Tryz
set_option maxRecDepth 20000
set_option linter.unusedVariables false
set_option maxHeartbeats 128000000
open Go Go.Sl Go.MapKept Go.RowKit
open Go.Proofs.YtadhomdmbcldkaaGreatDoor Go.Proofs.Y
variable {w0 w:World}{v bv wv dv x lv av:Value}{F R:List aO}{m b fb nb r K q p:Nat}{M:aG.aG}{bs:List Nat}{s:ByteArray}{fs:List aG.dw}{l:aG.iI}{f:aG.dw}{P:Program}{ops:Array Oper}{rest:List Oper}{a:Act}{Q:Exit->Act->World->Prop}
theorem yO0(h:C:=by simp;omega):C:=h
theorem yR0(h:C:=by have:=f.o;omega):C:=h
theorem yT0(h:C:=by unfold maxLen;omega):C:=h
theorem yY0(h:C:=by simpa using hj):C:=h
theorem zP0(h:C:=by rw [bP];omega):C:=h
namespace Go.Proofs.Y
open Go.aG
theorem Nq (h:au w0 w (uH bs fs::F)) (r:bs.length=fs.length){i:Nat} (hi:i<fs.length) :
  ∃ m o p q k wv,w.cell? ⟨bs.getD i 0,0,none⟩=some (.slice m o p)/\w.cell? ⟨bs.getD i 0,1,none⟩=some (.slice q (fs.getD i dw.iZ).aN.length k)/\w.cell? ⟨bs.getD i 0,2,none⟩=some wv /\
   bK 1 (.slice q (fs.getD i dw.iZ).aN.length k) (aI (fs.getD i dw.iZ).aN) w/\(fs.getD i dw.iZ).aN.length<=k/\k<=9223372036854775807/\(q=none/\k=0\/∃ g,q=some ⟨g,0,none⟩):=by
 obtain ⟨G,b,_⟩:=Td bs fs i r hi;rw [b]at h;obtain ⟨fv,nv,wv,ws,f,h⟩:=lN.open (au.fP.1 h);obtain ⟨m,o,p,rfl,_⟩:=(h.gZ 2 [1] rfl rfl).rd;have d:=h.gZ 3 [2] rfl rfl;have e:=d.rd;rcases au.nV d with ⟨rfl,a,_⟩|⟨g,n,cap,l,rfl,a,b,_,j,_,_⟩
 ·have c:(fs.getD i dw.iZ).aN.length=0:=by rw [<-bP];exact aiX List.length a
  rw [c];exact ⟨m,o,p,none,0,wv,h.dD 0 _ rfl,h.dD 1 _ rfl,h.dD 2 _ rfl,e,abG _,by omega,.inl ⟨rfl,rfl⟩⟩
 ·rw [bP,aiR]at a;subst a;exact ⟨m,o,p,_,cap,wv,h.dD 0 _ rfl,h.dD 1 _ rfl,h.dD 2 _ rfl,e,b,j,.inr ⟨g,rfl⟩⟩
theorem UD {i:iI}{k v:Value}{left:List (Value×Value)} (h:(iU bs i).Perm ((k,v)::left)) :
  ∃ p g,i.Perm (p::g)/\k=.string p.1/\v=aW (bs.getD p.2 0)/\left.Perm (iU bs g):=by
 have c:=h.mem_iff.2 (.head _);obtain ⟨p,d,e⟩:=abI.1 c;simp only [Prod.mk.injEq]at e;obtain ⟨t1,a,rfl⟩:=List.append_of_mem d;have b:(t1++p::a).Perm (p::(t1++a)):=auH;refine ⟨p,t1++a,b,e.1.symm,e.2.symm,?_⟩;have f:((k,v)::left).Perm ((k,v)::iU bs (t1++a)):=by
  refine h.symm.trans ((Om b).trans ?_);show List.Perm ((Value.string p.1,aW (bs.getD p.2 0))::iU bs (t1++a)) _;rw [e.1,e.2]
 exact (List.Perm.cons_inv f)
def DI (M:aG) (l:iI):Nat:=(l.map λp=>(M.file p.2).aN.length).sum
theorem atY {l l':iI} (h:l.Perm l'):DI M l=DI M l':=(h.map _).sum_nat
abbrev ah9 (m:Nat) (M:aG) (fb nb:Nat) (wv:Value) (bs:List Nat) (F:List aO):List aO:=uw m M fb nb wv::jJ .string nb (iU bs M.aN)::uH bs M.dU::F
theorem auK (h:au w0 w (ah9 m M fb nb wv bs F)) (hl:bs.length=M.dU.length) (hid:∀ p∈M.aN,p.2<M.dU.length) (hu:M.cO<=9223372036854775807) :
  Calls prog 89 #[aW m] w (bf λv w'=>v=.int .i64 M.zI/\au w0 w' (ah9 m M fb nb wv bs F)):=by
 have hd:=Ew h;have W:=h.dD 2 _ rfl;cases ho:M.off
 ·rw [ho]at hd;have D:Hid (M.zI=M.cO):=by show _=_;unfold aG.zI;rw [ho];rfl
  clear ho;go_enter func89,ntmps89
  go_wp2_with (first
   |(go_at_call 58;refine hd.mono ?_;rintro e B ⟨v,rfl,rfl,rfl⟩)
   |(at_range;go_must (refine XY aA _ _ _ _ aA underlying128 aA h.bZ ?_);intro r B C))
  go_frame
  go_loopg [3] M.aN.length (λg n J=>∃ (b:Nat) (a:iI) (left:List (Value×Value)),n=.int .i64 b/\g=a.length/\left.Perm (iU bs a)/\(∀ p∈a,p∈M.aN)/\b+DI M a=M.cO /\
   au w0 J (yX .string nb r (iU bs M.aN) left::uw m M fb nb wv::uH bs M.dU::F))
  case atStart=>exact ⟨0,M.aN,_,rfl,rfl,ao9 _,λ_ h=>h,by simp [aG.cO,DI],C⟩
  case round=>
   obtain ⟨b,a,left,rfl,rfl,c,j,l,C⟩:=hrel;have f:=uQ l;have o:=uQ j;have X:b<=M.cO:=oQ;clear l j
   go_wp2_with (first
    |(at_next;go_must (refine XW aA _ aA aA C ?_ ?_)))
   ·intro s;have y:=uQ s;clear s;go_wp2;go_ret;refine ⟨.int .i64 b,rfl,?_,?_⟩
    ·have K:a=[]:=by
      have:=c;rw [y.o]at this;simpa [iU] using this.symm
     subst K;have:=f.o;simp only [DI,ajz,List.sum_nil,aoe]at this;rw [D.o,this]
    ·exact (C.VW).bZ
   ·intro k v u B H z N;obtain ⟨p,d,i,rfl,rfl,A⟩:=UD (c.symm.trans H);have E:p.2<M.dU.length:=hid p (o.o p (i.mem_iff.2 (.head _)));obtain ⟨Y,Z,fc,O,P,Q,f0,f1,f2,_,_,_,G⟩:=Nq (z.gZ 3 [2] rfl rfl) hl E;have t:Hid (DI M a=(M.file p.2).aN.length+DI M d):=by
     show _=_;rw [atY i];simp [DI]
    have R:b+(M.file p.2).aN.length<=M.cO:=by
     have S:=f.o;have T:=t.o;omega
    have Hp:=uQ i;have U:=uQ A;clear H i A c;clear G;change B.cell? ⟨bs.getD p.2 0,1,none⟩=some (.slice O (M.file p.2).aN.length P) at f1;generalize bs.getD p.2 0=q at *
    generalize I:(M.file p.2).aN.length=L at *
    have HL:=uQ I;clear I;go_wp2
    go_roundg d.length
    case measure=>have:=Hp.o.length_eq;simp at this;omega
    case rel=>
     refine ⟨b+L,d,u,by go_num,rfl,U.o,λx V=>o.o x (Hp.o.mem_iff.2 (.tail _ V)),?_,z⟩;have S:=f.o;have T:=t.o;omega
 ·rw [ho]at hd;have D:Hid (M.zI=0):=by show _=_;unfold aG.zI;rw [ho];rfl
  clear ho;go_enter func89,ntmps89;go_wp2_with (go_at_call 58;refine hd.mono ?_;rintro e B ⟨v,rfl,rfl,rfl⟩);go_ret;exact ⟨.int .i64 0,rfl,by rw [D.o];rfl,h⟩
open Go.Sort in
theorem atK (k:List (List UInt8)) (h:au w0 w (aK 9 1 v (k.map encStr)::F)) (p:k.length<4611686018427387904) :
  Calls prog 129 #[v] w (bf λ_ w'=>au w0 w' (aK 9 1 v ((k.mergeSort λx y=>decide (x<=y)).map encStr)::F)):=by
 rcases h.nV with ⟨rfl,hn,t⟩|⟨g,n,cap,m,rfl,o,hn,r,c,a,b⟩
 ·have d:k=[]:=by simpa using hn
  subst d;refine (Tryz.slices_Sort_string_none none 0 w).mono ?_;rintro e s ⟨rfl,rfl⟩;exact ⟨_,rfl,by simpa using h⟩
 ·have f:n=k.length:=by simpa using o.symm
  subst f;rw [aiR]at a;refine (Tryz.slices_Sort_string g 0 cap k w (holds_of_block b.at a) b.lt p).mono ?_;rintro e s ⟨rfl,n,os,rfl⟩;refine ⟨_,rfl,?_⟩;have hg:=grownBy_sorted (w:=w) (g:=g) (n:=n) (os:=os) (k.mergeSort λx y=>decide (x<=y)).toArray;have:=b.jc hg.os hg.tape hg.output hg.size (heap_sorted (k.mergeSort λx y=>decide (x<=y)).toArray b.at) (λi hi j=>hg.block i j (by simpa using hi));refine this.pV yD0 hn (by simpa [Sort.putCells] using r) c ?_;have l:=take_putCells m (k.mergeSort λx y=>decide (x<=y)) (by rw [List.length_mergeSort];omega);rw [List.length_mergeSort]at l;rw [aiR];exact l
theorem aaH (s:ByteArray):encStr s.data.toList=.string s:=by simp [encStr]
theorem atL {l:iI} (hs:tX l){ks:List ByteArray} (hp:ks.Perm (l.map (·.1))) :
  ((ks.map λs=>s.data.toList).mergeSort λx y=>decide (x<=y)).map encStr=l.map λp=> .string p.1:=by
 have h1:((ks.map λs=>s.data.toList).mergeSort λx y=>decide (x<=y))=l.map λp=>p.1.data.toList:=by
  refine List.Perm.eq_of_pairwise (le:=λx y=>decide (x<=y)=true) ?_ ?_ ?_ ?_
  ·intro a b _ _ h1 h2;simp only [ad2]at h1 h2;exact List.le_antisymm h1 h2
  ·refine List.pairwise_mergeSort ?_ ?_ _
   ·intro a b c h1 h2;simp only [ad2]at *
    exact List.le_trans h1 h2
   ·intro a b;simp only [Bool.or_eq_true,ad2];exact List.le_total a b
  ·rw [akC];refine hs.imp λ{a b} hab=>?_;simp only [lt,ad2]at hab ⊢;exact List.le_of_lt hab
  ·refine (List.mergeSort_perm _ _).trans ?_;have:=hp.map λs:ByteArray=>s.data.toList;rw [ajr]at this;exact this
 rw [h1,ajr];apply anP;intro p _;exact aaH p.1
theorem an6:(prog.info? 9).map (λi=>(i.zero,i.size,i.bytes))=some (some (.string ByteArray.empty),1,16):=aC
def nG (l:List ByteArray):List Value:=l.map Value.string
theorem atW (l:List ByteArray):nG l=(l.map λs=>s.data.toList).map encStr:=by
 unfold nG;rw [ajr];apply anP;intro s _;exact (aaH s).symm
theorem apn (h:au w0 w (jJ .string b (iU bs l)::F)) (hs:tX l) (hl:l.length<=1099511627776) :
  Calls prog 62 #[.map (some b)] w (bf λv w'=>au w0 w' (aK 9 1 v (nG (l.map (·.1)))::jJ .string b (iU bs l)::F)/\∃ a n c,v=.slice a n c):=by
 obtain ⟨i,hi,J,K,L⟩:=info_parts an6
 go_in
 go_wp2_with (at_range;go_must (refine XY aA _ _ _ _ aA underlying128 aA h ?_);intro r V E)
 go_frame
 go_loopg [3] l.length (λg n W=>∃ (m:List ByteArray) (d:iI) (left:List (Value×Value)),g=d.length/\left.Perm (iU bs d)/\(m++d.map (·.1)).Perm (l.map (·.1)) /\
   au w0 W (aK 9 1 n (nG m)::yX .string b r (iU bs l) left::F))
 case atStart=>exact ⟨[],l,_,rfl,ao9 _,ao9 _,by unfold nG;exact au.iW.2 E⟩
 case round=>
  obtain ⟨m,d,left,rfl,o,j,E⟩:=hrel;have G:m.length+d.length=l.length:=by have:=j.length_eq;simpa using this
  obtain ⟨oa,on,oc,rfl,A,_⟩:=E.rd;clear A;go_wp2_with (at_next;go_must (refine XW aA _ aA aA E.bZ ?_ ?_))
  ·intro z;have X:d=[]:=by
    have:=o;rw [z]at this;simpa [iU] using this.symm
   subst X;have M:m.Perm (l.map (·.1)):=by simpa using j
   have y:=atK (m.map λs=>s.data.toList) (by rw [<-atW];exact E) (by simp at G ⊢;omega);rw [atL hs M]at y;go_wp2_with (go_at_call 129;refine y.mono ?_;rintro e Y ⟨v,rfl,B⟩);go_ret;refine ⟨_,rfl,?_,_,_,_,rfl⟩;have Z:=(B.bZ.VW).bZ;have e1:nG (l.map (·.1))=l.map λp=>Value.string p.1:=by unfold nG;rw [ajr];rfl
   rw [e1];exact Z
  ·intro k v C V S N aa;obtain ⟨p,f,D,rfl,rfl,I⟩:=UD (o.symm.trans S);have O:d.length=f.length+1:=by have:=D.length_eq;simpa using this
   clear S;have P:=N.bZ.alloc (.cells #[.string p.1] 9);have Q:(nG m).length+1<=maxLen:=by unfold nG maxLen;rw [abl];omega
   have R:((nG m).length+1)*i.bytes<=140737488355328:=by unfold nG;rw [abl,L];omega
   have A:∀ u∈(#[.string p.1]:Array Value).toList,u.oneCell'=true:=by
    intro u T;simp only [ab9,ajW,av2]at T;subst T;rfl
   go_wp2_with (at_builtin;go_must (refine AA (w0:=w0) aA _ _ _ aA _ i _ underlying125 hi J K aA oQ aA aA A P.bZ (Dx _ _ _ 1 1 1 aA) Q R ?_);intro v2 Y B ab)
   go_roundg f.length
   case measure=>omega
   case rel=>
    refine ⟨m++[p.1],f,C,rfl,I,?_,?_⟩
    ·refine List.Perm.trans ?_ j;rw [ab6];exact List.Perm.append_left m (show List.Perm ((p::f).map (·.1)) _ from (D.map (·.1)).symm)
    ·have:nG (m++[p.1])=nG m++[.string p.1]:=by simp [nG]
     rw [this];exact B.gZ 3 [0,2] rfl rfl
theorem alu (h:au w0 w (jJ .string b (iU bs l)::F)) :
  Calls prog 60 #[.map (some b)] w (bf λv w'=>∃ b',v=.map (some b')/\au w0 w' (jJ .string b' (iU bs l)::jJ .string b (iU bs l)::F)):=by
 have hn:=UC h;have K:=@run_makeMap prog;have C:=h.OH .string
 go_in
 go_wp2_with (at_range;go_must (refine XY aA _ _ _ _ aA underlying128 aA C.bZ ?_);intro r M A)
 go_frame
 generalize w.heap.size=b' at *
 go_loopg [4,5] l.length (λg _ _ N=>∃ (done a:iI) (left:List (Value×Value)),g=a.length/\left.Perm (iU bs a)/\(done++a).Perm l /\
   au w0 N (jJ .string b' (iU bs done)::yX .string b r (iU bs l) left::F))
 case atStart=>exact ⟨[],l,_,rfl,ao9 _,ao9 _,A.bZ⟩
 case round=>
  obtain ⟨done,a,left,rfl,f,i,A⟩:=hrel;go_wp2_with (at_next;go_must (refine XW aA _ aA aA A.bZ ?_ ?_))
  ·intro o;have C:a=[]:=by
    have:=f;rw [o]at this;simpa [iU] using this.symm
   subst C;have H:done.Perm l:=by simpa using i
   go_wp2;go_ret;refine ⟨_,rfl,b',rfl,?_⟩;exact ((A.bZ.VW).bZ).OI (Om H)
  ·intro k v t M I D P;obtain ⟨p,d,n,rfl,rfl,z⟩:=UD (f.symm.trans I);have E:a.length=d.length+1:=by have:=n.length_eq;simpa using this
   have s:∀ x∈iU bs done,x.1 ≠ .string p.1:=by
    intro x Q e;obtain ⟨q,B,rfl⟩:=abI.1 Q;simp only [Value.string.injEq]at e;have J:=((i.map (·.1)).nodup_iff.2 hn);rw [acy,List.nodup_append]at J;exact J.2.2 q.1 (abI.2 ⟨q,B,rfl⟩) p.1 (abI.2 ⟨p,n.mem_iff.2 (.head _),rfl⟩) e
   have m:(iU bs done).Perm (iU bs done)/\(∀ x∈iU bs done,x.1 ≠ .string p.1)\/∃ R,(iU bs done).Perm ((.string p.1,R)::iU bs done):= .inl ⟨ao9 _,s⟩;generalize B:aW (bs.getD p.2 0)=q at *
   go_wp2_with (at_mapUpdate;go_must (refine XZ (key:= .string p.1) aA _ _ _ aA underlying128 underlying9 aA aA aA trivial D.bZ _ m ?_);intro U G)
   go_roundg d.length
   case measure=>omega
   case rel=>
    refine ⟨p::done,d,t,rfl,z,?_,?_⟩
    ·refine List.Perm.trans ?_ i;exact (auH.symm).trans (List.Perm.append_left done n.symm)
    ·show au w0 _ (jJ .string b' ((.string p.1,aW (bs.getD p.2 0))::iU bs done)::_);rw [B];exact G
theorem Fv (hM:M.Ok K) (h:au w0 w (aV m M::F)) (s:ByteArray) :
  Calls prog 95 #[aW m,.string s] w (bf λv w'=>v=.tuple #[.int .i64 (M.size s).1,dS (M.size s).2]/\w=w'):=by
 obtain ⟨bs,fb,nb,wv,c,hR⟩:=aV.open h;cases ho:M.off
 ·cases hn:dN M.aN s with
  |none=>
   have hf:=EC (s:=s) hR ho hn;have a:Hid (M.size s=(0,9)):=by show _=_;simp [aG.size,ho,hn]
   clear ho hn;go_enter func95,ntmps95;refine Fb ?_
   go_ret2
   exact ⟨_,rfl,by rw [a.o];rfl,rfl⟩
  |some i=>
   have hf:=EF (s:=s) hR ho hn;have hid:i<M.dU.length:=hM.jR.qG (s,i) (lZ hn);obtain ⟨j,l,n,d,f,g,o,f1,f2,_,_,_,b⟩:=Nq (hR.gZ 3 [2] rfl rfl) c hid;have a:Hid (M.size s=(((M.file i).aN.length:Int),0)):=by show _=_;simp [aG.size,ho,hn]
   clear ho hn b;change w.cell? ⟨bs.getD i 0,1,none⟩=some (.slice d (M.file i).aN.length f) at f1;generalize bs.getD i 0=q at *
   go_enter func95,ntmps95;refine Fb ?_
   go_ret2
   refine ⟨.tuple #[.int .i64 (M.file i).aN.length,dS 0],rfl,?_,rfl⟩;rw [a.o]
 ·have hf:=ED (s:=s) hR ho;have a:Hid (M.size s=(0,12)):=by show _=_;simp [aG.size,ho]
  clear ho;go_enter func95,ntmps95;refine Fb ?_
  go_ret2
  exact ⟨_,rfl,by rw [a.o];rfl,rfl⟩
theorem Md (hM:M.Ok K) (h:au w0 w (aV m M::F)) (s:ByteArray) :
  Calls prog 26 #[aW m,.string s] w (bf λv w'=>∃ bv,v=.tuple #[bv,dS (M.all s).2]/\au w0 w' (cZ bv (M.all s).1::aV m M::F)):=by
 obtain ⟨bs,fb,nb,wv,l,hR⟩:=aV.open h;cases ho:M.off
 ·cases hn:dN M.aN s with
  |none=>
   have hf:=EC hR ho hn;have iT:Hid (M.all s=([],9)):=by show _=_;simp [aG.all,ho,hn]
   clear ho hn;go_enter func26,ntmps26;refine Fb ?_;exact O6
  |some i=>
   have hf:=EF (s:=s) hR ho hn;have hid:i<M.dU.length:=hM.jR.qG (s,i) (lZ hn);obtain ⟨r,t,u,g,j,n,x,f1,f2,a,b,d,f⟩:=Nq (hR.gZ 3 [2] rfl rfl) l hid;have c:=yL h a (by have:=(hM.file i).zD;unfold aG.file at this;omega);have iT:Hid (M.all s=((M.file i).aN,0)):=by show _=_;simp [aG.all,ho,hn]
   clear ho hn a b d f;change w.cell? ⟨bs.getD i 0,1,none⟩=some (.slice g (M.file i).aN.length j) at f1;change Calls _ _ #[.slice g (M.file i).aN.length j] _ _ at c;generalize bs.getD i 0=q at *
   go_enter func26,ntmps26
   go_wp2_with (first
    |(go_at_call 76;refine hf.mono ?_;rintro e w1 ⟨v,rfl,rfl,rfl⟩)
    |(go_at_call 74;refine c.mono ?_;rintro e w1 ⟨v,rfl,o,_⟩))
   go_ret2
   exact ⟨_,rfl,v,by rw [iT.o];rfl,by rw [iT.o];exact o⟩
 ·have hf:=ED (s:=s) hR ho;have iT:Hid (M.all s=([],12)):=by show _=_;simp [aG.all,ho]
  clear ho;go_enter func26,ntmps26;refine Fb ?_;exact O6
theorem VP {a:Option Addr}{n c lo k:Nat}{xs:List Value} (h:bK 1 (.slice a n c) xs w) (u:lo+k<=n) (x:Option Addr) (p:x=if c=lo then a else a.map (·.add lo)) (v:n<=c) (q:Nat):bK 1 (.slice x k q) ((xs.drop lo).take k) w:=by
 have⟨s,t,g,j,l,d⟩:=h;cases j;rw [aiR]at l;refine ⟨x,k,q,rfl,by simp;omega,λi y hi=>?_⟩;rw [ak7]at hi;split at hi
 ·rename_i m;rw [anv]at hi;have⟨b,o,r⟩:=d _ y hi;subst o;have:¬ c=lo:=oQ;rw [abB this]at p;refine ⟨b.add lo,by simpa using p,?_⟩;have:(b.add lo).add i=b.add (lo+i):=by
   unfold Addr.add;by_cases e:lo=0
   ·subst e;simp
   ·by_cases f:i=0
    ·subst f;simp
    ·simp [e,f];omega
  rw [this];exact r
 ·cases hi
theorem arb (hM:M.Ok K) (h:au w0 w (aV m M::F)) (s:ByteArray) (aP n:Int) (ha : -9223372036854775808<=aP/\aP<=9223372036854775807) (hn : -9223372036854775808<=n/\n<=9223372036854775807) :
  Calls prog 173 #[aW m,.string s,.int .i64 aP,.int .i64 n] w (bf λv w'=>∃ bv,v=.tuple #[bv,dS (M.read s aP n).2]/\au w0 w' (cZ bv (M.read s aP n).1::aV m M::F)):=by
 obtain ⟨bs,fb,nb,wv,hl,hR⟩:=aV.open h;obtain ⟨ha1,ha2⟩:=ha;obtain ⟨hn1,hn2⟩:=hn;cases ho:M.off
 ·cases hg:dN M.aN s with
  |none=>
   have hf:=EC (s:=s) hR ho hg;have iT:Hid (M.read s aP n=([],9)):=by show _=_;simp [aG.read,ho,hg]
   clear ho hg;go_enter func173,ntmps173;go_wp2_with (go_at_call 76;refine hf.mono ?_;rintro e w1 ⟨v,rfl,rfl,rfl⟩);exact O6
  |some i=>
   have hf:=EF (s:=s) hR ho hg;have hid:i<M.dU.length:=hM.jR.qG (s,i) (lZ hg);obtain ⟨fa,fn,fc,na,nc,wv',f0,f1,f2,hrd,hcap,hnc,hna⟩:=Nq (hR.gZ 3 [2] rfl rfl) hl hid;have hnl:=(hM.file i).zD;change w.cell? ⟨bs.getD i 0,1,none⟩=some (.slice na (M.file i).aN.length nc) at f1;change bK 1 (.slice na (M.file i).aN.length nc) (aI (M.file i).aN) w at hrd;change (M.file i).aN.length<=nc at hcap;generalize hL:(M.file i).aN=L at *
   have HL:=uQ hL;clear hL;generalize bs.getD i 0=q at *
   have Hg:=uQ hg;have Ho:=uQ ho;clear hg ho;have hread:∀ x:Bs×Int,x=(if aP<0\/n<0 then ([],2) else if (L.length:Int)<aP\/(L.length:Int)-aP<n then ([],3) else ((L.drop aP.toNat).take n.toNat,0))->M.read s aP n=x:=by
    rintro x rfl;simp only [aG.read,Ho.o,Hg.o,HL.o,ajI,auQ]
   have y8:=uQ hread;clear hread;by_cases h1:aP<0
   ·go_enter func173,ntmps173;go_wp2_with (go_at_call 76;refine hf.mono ?_;rintro e w1 ⟨v,rfl,rfl,rfl⟩)
    go_ret2
    have:=y8.o _ (abL (.inl h1)).symm;exact ⟨_,rfl,.slice none 0 0,by rw [this];rfl,by rw [this];exact au.iW.2 h⟩
   have h1':decide (aP<0)=false:=by simpa using h1
   by_cases h2:n<0
   ·go_enter func173,ntmps173;go_wp2_with (go_at_call 76;refine hf.mono ?_;rintro e w1 ⟨v,rfl,rfl,rfl⟩)
    go_ret2
    have:=y8.o _ (abL (.inr h2)).symm;exact Vp
   have h2':decide (n<0)=false:=by simpa using h2
   obtain ⟨a,rfl⟩:=awg (show 0<=aP by omega);obtain ⟨k,rfl⟩:=awg (show 0<=n by omega);have h12:¬ ((a:Int)<0\/(k:Int)<0):=oQ;by_cases h3:(L.length:Int)<a
   ·go_enter func173,ntmps173;go_wp2_with (go_at_call 76;refine hf.mono ?_;rintro e w1 ⟨v,rfl,rfl,rfl⟩)
    go_ret2
    have:=y8.o _ ((abB h12).trans (abL (.inl h3))).symm;exact Vp
   have h3':decide ((L.length:Int)<a)=false:=by simpa using h3
   by_cases h4:(L.length:Int)-a<k
   ·go_enter func173,ntmps173;go_wp2_with (go_at_call 76;refine hf.mono ?_;rintro e w1 ⟨v,rfl,rfl,rfl⟩)
    go_ret2
    have:=y8.o _ ((abB h12).trans (abL (.inr h4))).symm;exact Vp
   have h4':decide ((L.length:Int)-a<k)=false:=by simpa using h4
   have h34:¬ ((L.length:Int)<a\/(L.length:Int)-a<k):=oQ;have hfin:=y8.o _ ((abB h12).trans (abB h34)).symm;have iT:=uQ hfin;clear hfin;have hcl:∀ x,x=(if nc=a then na else na.map (·.add a))->Calls prog 74 #[.slice x k (nc-a)] w (bf λv' w'=>au w0 w' (cZ v' ((L.drop a).take k)::aV m M::F)/\∃ a n c,v'=.slice a n c):=by
    intro x hx;refine yL h ?_ yO0;have:=VP (lo:=a) (k:=k) hrd oQ x hx hcap (nc-a);simpa [aI,avZ,List.map_drop] using this
   have oI:=uQ hcl;clear hcl hrd;have e5:(a:Int)+k<=nc:=oQ;rcases hna with ⟨rfl,rfl⟩|⟨g,rfl⟩
   ·obtain rfl:a=0:=oQ;obtain rfl:k=0:=oQ;have hcl:=oI.o none yD0;simp only [auP]at hcl;clear y8 oI;exact VH
   ·clear y8;by_cases hca:nc=a
    ·subst hca;obtain rfl:k=0:=oQ;have hcl:=oI.o (some ⟨g,0,none⟩) yD0;simp only [auP]at hcl;clear oI;exact VH
    ·have hcl:=oI.o (some ⟨g,a,none⟩) (by rw [abB hca];simp [xw]);clear oI;exact VH
 ·have hf:=ED (s:=s) hR ho;have iT:Hid (M.read s aP n=([],12)):=by show _=_;simp [aG.read,ho]
  clear ho;go_enter func173,ntmps173;go_wp2_with (go_at_call 76;refine hf.mono ?_;rintro e w1 ⟨v,rfl,rfl,rfl⟩);exact O6
theorem adU (room:Nat) (hr:room<=16777216) (h:au w0 w F) :
  Calls prog 31 #[.int .i64 room] w (bf λv w'=>∃ m,v=.tuple #[aW m,dS 0]/\au w0 w' (aV m (aG.iZ room)::F)):=by
 have h2:decide ((room:Int)<0)=false:=by rw [ai9];omega
 have h3:decide (16777216<(room:Int))=false:=by rw [ai9];omega
 have hmm:=@run_makeMap prog;have hA:=((h.OH .string).OH .string);have hB:=hA.alloc (.cells #[.int .i64 room,.map (some w.heap.size),.map (some (w.heap.size+1)),.slice none 0 0,.bool false,.int .i64 0,.bool false] 131);go_enter func31,ntmps31;go_wp2
 go_ret2
 refine ⟨_,rfl,_,rfl,?_⟩;refine aV.fA (bs:=[]) (fb:=w.heap.size) (nb:=w.heap.size+1) (wv:= .slice none 0 0) rfl ?_;have h5:au w0 _ (aK 135 3 (.slice none 0 0) []::Sl.ng::_::_::_::F):=au.iW.2 (au.ng.2 hB);simp only [World.size_alloc]at h5;exact h5.gZ 5 [2,3,1,4,0] rfl rfl
theorem JL (hM:M.Ok K) (h:au w0 w (aV m M::F)) :
  Calls prog 55 #[aW m] w (bf λv w'=>au w0 w' (aK 9 1 v (nG M.list)::aV m M::F)/\∃ a n c,v=.slice a n c):=by
 obtain ⟨bs,fb,nb,wv,i,d⟩:=aV.open h;have hd:=Ew d;have l:=d.dD 2 _ rfl;cases ho:M.off
 ·rw [ho]at hd;have f:=apn (d.gZ 5 [1,0,2,3,4] rfl rfl) hM.jR.sU (by have:=hM.jR.len;omega);have b:Hid (M.list=M.aN.map (·.1)):=by show _=_;simp [aG.list,ho]
  clear ho;go_enter func55,ntmps55;go_wp2_with (first|(go_at_call 58;refine hd.mono ?_;rintro e g ⟨v,rfl,rfl,rfl⟩)|(go_at_call 62;go_must (refine f.mono ?_);rintro e g ⟨v,rfl,j,o,r,s,rfl⟩));go_ret;refine ⟨_,rfl,?_,_,_,_,rfl⟩;rw [b.o];exact (aV.fA i (j.gZ 6 [2,1,3,4,5,0] rfl rfl)).bZ
 ·rw [ho]at hd;have b:Hid (M.list=[]):=by show _=_;simp [aG.list,ho]
  clear ho;go_enter func55,ntmps55;go_wp2_with (go_at_call 58;refine hd.mono ?_;rintro e g ⟨v,rfl,rfl,rfl⟩);go_ret;refine ⟨.slice none 0 0,rfl,?_,_,_,_,rfl⟩;rw [b.o];exact au.iW.2 h
theorem abr (bs:List Nat) (b i:Nat) (h:i<bs.length):(bs++[b]).getD i 0=bs.getD i 0:=by
 simp [abY,aiS h]
theorem adJ (h:∀ p∈l,p.2<bs.length) (b:Nat):iU (bs++[b]) l=iU bs l:=by
 unfold iU;apply anP;intro p hp;rw [abr bs b p.2 (h p hp)]
theorem aoW {ws:List lY} (h:∀ x∈ws,x.to≠ByteArray.empty->x.f<bs.length) (b:Nat):ws.flatMap (uN (bs++[b]))=ws.flatMap (uN bs):=by
 induction ws with
 |nil=>rfl
 |cons x ws ih=>
  rw [aiN,aiN,ih λy hy=>h y (.tail _ hy)]
  congr 1
  unfold uN;by_cases ht:x.to=ByteArray.empty
  ·simp [ht]
  ·simp only [abB ht];rw [abr bs b x.f (h x (.head _) ht)]
theorem aoQ (h:au w0 w (jJ .string b (iU bs l)::F)) (ty:TypeId):(Builtin.len_ #[128] ty #[.map (some b)]).run prog w=.ok (.int .i64 l.length) w:=by
 have:=asG underlying128 ty h;simpa [iU] using this
theorem Fe (h:au w0 w (uw m M.step.1 fb nb wv::[jJ .string nb (iU bs M.aN),uH bs M.dU,jJ .string fb (iU bs M.jo),aK 135 3 wv (M.waits.flatMap (uN bs))]++F)):au w0 w (Bc m M.step.1 bs fb nb wv++F):=by
 obtain ⟨e1,e2,e3,e4,e5⟩:=M.qg;unfold Bc;rw [e2,e3,e4,e5];exact h
theorem aiM (h:au w0 w (Bv b (.slice none 0 0) (.slice none 0 0) (.slice none 0 0)::F)):au w0 w (lN b dw.iZ::F):=by
 refine lN.fA (fv:= .slice none 0 0) (nv:= .slice none 0 0) (wv:= .slice none 0 0) (ws:=[]) rfl ?_;have h1:au w0 w (cZ (.slice none 0 0) []::cZ (.slice none 0 0) []::aK 182 3 (.slice none 0 0) []::rW []::_):=au.iW.2 (au.iW.2 (au.iW.2 (au.ng.2 h)));exact h1.gZ 5 [4,0,1,2,3] rfl rfl
theorem alz (hM:M.Ok K) (B:K<=1099511627776) (k:bs.length=M.dU.length) (C:s≠ByteArray.empty) (h:au w0 w (Bc m M bs fb nb wv++F)) :
  Calls prog 83 #[aW m,.agg #[.string { data:=#[] },.string s,aW w.heap.size]] (w.alloc (.cells #[.slice none 0 0,.slice none 0 0,.slice none 0 0] 157))
   (bf λ_ w'=>au w0 w' (aV m (({ M with dU:=M.dU++[dw.iZ] }:aG).kL ⟨ByteArray.empty,s,M.dU.length⟩)::F)):=by
 have f:=h.alloc (.cells #[.slice none 0 0,.slice none 0 0,.slice none 0 0] 157);have g:=aiM f;generalize w.heap.size=q at *
 have i:=adJ (λp b=>by rw [k];exact hM.jR.qG p b) q;have j:=adJ (λp b=>by rw [k];exact hM.ami.qG p b) q;have l:=aoW (λx n o=>by rw [k];exact hM.EP x n o) q;have r:uH (bs++[q]) (M.dU++[dw.iZ])=fP (lN q dw.iZ) (uH bs M.dU):=aaW _ _ _ _ k;have t:au w0 _ (lN q dw.iZ::uH bs M.dU::uw m M fb nb wv::jJ .string nb (iU bs M.aN)::aK 135 3 wv (M.waits.flatMap (uN bs))::jJ .string fb (iU bs M.jo)::F):=g.gZ 6 [0,3,1,2,5,4] rfl rfl;have d:=au.fP.2 t;rw [<-r,<-i,<-j,<-l]at d;have u:=d.gZ 5 [1,2,3,0,4] rfl rfl;have a:=adi ⟨ByteArray.empty,s,M.dU.length⟩ u (abQ hM.wC B);have y:vP (bs++[q]) ⟨ByteArray.empty,s,M.dU.length⟩=aW q:=by
  unfold vP;rw [abB C];simp [abY,<-k]
 rw [y]at a;refine a.mono ?_;rintro e A ⟨v,rfl,c,z⟩;refine ⟨v,rfl,aV.fA (bs:=bs++[q]) (fb:=fb) (nb:=nb) (wv:=c) (by simp [aG.kL,k]) ?_⟩;exact z.gZ 5 [0,1,3,4,2] rfl rfl
theorem Ji (hM:M.Ok K) (hK:K<=1099511627776) (h:au w0 w (aV m M::F)) (s:ByteArray) (hs:s.size<=9223372036854775807) :
  Calls prog 36 #[aW m,.string s] w (bf λv w'=>v=dS (M.dM s).2/\au w0 w' (aV m (M.dM s).1::F)):=by
 obtain ⟨bs,fb,nb,wv,hl,f⟩:=aV.open h;have hd:=Ew f;have hg:=abx s w hs;have x:=f.dD 2 _ rfl;cases ho:M.off
 ·rw [ho]at hd;cases hgs:dW s
  ·rw [hgs]at hg;have iT:Hid (M.dM s=(M,7)):=by show _=_;simp [aG.dM,ho,hgs]
   clear ho hgs;refine Vg ?_;exact ⟨dS 7,rfl,by rw [iT.o],by rw [iT.o];exact h⟩
  rw [hgs]at hg;have b:=Ol (s:=s) (f.bZ);cases hn:dN M.aN s with
  |some i=>
   have iT:Hid (M.dM s=(M,10)):=by show _=_;simp [aG.dM,ho,hgs,hn]
   rw [BA,hn]at b;clear ho hgs hn;simp only at b;generalize bs.getD i 0=q at b;refine Vg ?_;exact ⟨dS 10,rfl,by rw [iT.o],by rw [iT.o];exact h⟩
  |none=>
   rw [BA,hn]at b;simp only at b;have o:=λr=>aoQ (f.bZ) r;by_cases c:500<=(M.aN.length:Int)
   ·have iT:Hid (M.dM s=(M,16)):=by
     show _=_;have:500<=M.aN.length:=oQ;simp [aG.dM,ho,hgs,hn,this]
    clear ho hgs hn;refine Vg ?_;exact ⟨dS 16,rfl,by rw [iT.o],by rw [iT.o];exact h⟩
   have a:¬ 500<=M.aN.length:=oQ;have t:decide ((500:Int)<=(M.aN.length:Int))=false:=by rw [ai9];exact c
   have d:=Fz f hM.left;cases hstep:M.step.2
   ·rw [hstep]at d;have iT:Hid (M.dM s=(M.step.1,12)):=by show _=_;simp [aG.dM,ho,hgs,hn,a,hstep]
    clear ho hgs hn hstep c a;go_enter func36,ntmps36;go_wp2_with (first|(go_at_call 58;refine hd.mono ?_;rintro e w1 ⟨v,rfl,rfl,rfl⟩)|(go_at_call 81;refine hg.mono ?_;rintro e w1 ⟨v,rfl,rfl,rfl⟩)|(go_at_call 82;refine d.mono ?_;rintro e w1 ⟨v,rfl,rfl,hS1⟩));exact J8
   ·rw [hstep]at d;have iT:Hid (M.dM s=(({ M.step.1 with dU:=M.dU++[dw.iZ] }:aG).kL ⟨ByteArray.empty,s,M.dU.length⟩,0)):=by show _=_;simp [aG.dM,ho,hgs,hn,a,hstep]
    have l:=yx hgs;clear ho hgs hn hstep c a;have g:bs.length=M.step.1.dU.length:=by rw [M.qg.2.2.2.1];exact hl
    have n:=uQ g;clear g;go_enter func36,ntmps36;go_wp2_with (first|(go_at_call 58;refine hd.mono ?_;rintro e w1 ⟨v,rfl,rfl,rfl⟩)|(go_at_call 81;refine hg.mono ?_;rintro e w1 ⟨v,rfl,rfl,rfl⟩)|(go_at_call 82;refine d.mono ?_;rintro e w1 ⟨v,rfl,rfl,hS1⟩)|(go_at_call 83;go_must (refine (alz hM.step hK n.o l (Fe hS1)).mono ?_);rintro e y ⟨z,rfl,j⟩));go_ret;refine ⟨dS 0,rfl,by rw [iT.o],?_⟩;rw [iT.o];have u:=M.qg.2.2.2.1;rw [u]at j;exact j
 ·rw [ho]at hd;have iT:Hid (M.dM s=(M,12)):=by show _=_;simp [aG.dM,ho]
  clear ho;go_enter func36,ntmps36;go_wp2_with (go_at_call 58;refine hd.mono ?_;rintro e w1 ⟨v,rfl,rfl,rfl⟩);go_ret;exact ⟨dS 12,rfl,by rw [iT.o],by rw [iT.o];exact h⟩
theorem VN (hl:bs.length=M.dU.length){i:Nat} (hi:i<M.dU.length) (h:au w0 w (Bc m M bs fb nb wv++F)) :
  ∃ G:aO,au w0 w (lN (bs.getD i 0) (M.file i)::uw m M fb nb wv::jJ .string nb (iU bs M.aN)::jJ .string fb (iU bs M.jo)::aK 135 3 wv (M.waits.flatMap (uN bs))::G::F) /\
   ∀ (w':World) (f':dw),au w0 w' (lN (bs.getD i 0) f'::uw m M fb nb wv::jJ .string nb (iU bs M.aN)::jJ .string fb (iU bs M.jo)::aK 135 3 wv (M.waits.flatMap (uN bs))::G::F)->au w0 w' (aV m (M.lW i f')::F):=by
 obtain ⟨G,h1,h2⟩:=Td bs M.dU i hl hi;refine ⟨G,?_,λw' f' h'=>?_⟩
 ·have h3:=h.gZ 5 [2,0,1,3,4] rfl rfl;have h4:au w0 w (uH bs M.dU::uw m M fb nb wv::jJ .string nb (iU bs M.aN)::jJ .string fb (iU bs M.jo)::aK 135 3 wv (M.waits.flatMap (uN bs))::F):=h3;rw [h1]at h4;exact (au.fP.1 h4).gZ 6 [0,2,3,4,5,1] rfl rfl
 ·refine aV.fA (bs:=bs) (fb:=fb) (nb:=nb) (wv:=wv) (by simp [aG.lW,hl]) ?_;have h4:au w0 w' (lN (bs.getD i 0) f'::G::uw m M fb nb wv::jJ .string nb (iU bs M.aN)::jJ .string fb (iU bs M.jo)::aK 135 3 wv (M.waits.flatMap (uN bs))::F):=h'.gZ 6 [0,5,1,2,3,4] rfl rfl;have h5:=au.fP.2 h4;rw [<-h2]at h5;exact h5.gZ 5 [1,2,0,3,4] rfl rfl
theorem Qb (hM:M.Ok K) (h:au w0 w (aV m M::F)) (s:ByteArray) :
  Calls prog 56 #[aW m,.string s] w (bf λv w'=>v=dS (M.dY s).2/\au w0 w' (aV m (M.dY s).1::F)):=by
 obtain ⟨bs,fb,nb,wv,hl,hR⟩:=aV.open h;cases ho:M.off
 ·cases hn:dN M.aN s with
  |none=>
   have hf:=EC (s:=s) hR ho hn;have iT:Hid (M.dY s=(M,9)):=by show _=_;simp [aG.dY,ho,hn]
   clear ho hn;go_enter func56,ntmps56;refine Fb ?_;exact Vs
  |some i=>
   have hf:=EF (s:=s) hR ho hn;have hid:i<M.dU.length:=hM.jR.qG (s,i) (lZ hn);have b:=Fz hR hM.left;cases hstep:M.step.2
   ·rw [hstep]at b;have iT:Hid (M.dY s=(M.step.1,12)):=by show _=_;simp [aG.dY,ho,hn,hstep]
    clear ho hn hstep;go_enter func56,ntmps56;go_wp2_with (first|(go_at_call 76;refine hf.mono ?_;rintro e w1 ⟨v,rfl,rfl,rfl⟩)|(go_at_call 82;refine b.mono ?_;rintro e w1 ⟨v,rfl,rfl,hS1⟩));exact J8
   ·rw [hstep]at b;have iT:Hid (M.dY s=(M.step.1.lW i (M.file i).dY,0)):=by show _=_;simp [aG.dY,ho,hn,hstep]
    clear ho hn hstep;have hl':bs.length=M.step.1.dU.length:=by rw [M.qg.2.2.2.1];exact hl
    have c:i<M.step.1.dU.length:=by rw [M.qg.2.2.2.1];exact hid
    have d:M.step.1.file i=M.file i:=by unfold aG.file;rw [M.qg.2.2.2.1]
    have B:=(hM.file i).zD;have g:=uQ hl';have j:=uQ d;clear hl' d;generalize u:bs.getD i 0=q at hf;have x:=uQ u;clear u;go_enter func56,ntmps56;go_wp2_with (first|(go_at_call 76;refine hf.mono ?_;rintro e w1 ⟨v,rfl,rfl,rfl⟩)|(go_at_call 82;fail));refine b.mono ?_;rintro e w1 ⟨v,rfl,rfl,hS1⟩;obtain ⟨G,l,n⟩:=VN g.o c (Fe hS1);rw [j.o,x.o]at l;rw [x.o]at n;obtain ⟨fv,nv,o,ws,r,C⟩:=lN.open l;have D:=uQ n;clear n hS1 l r;have f:au w0 w1 (Bv q fv nv o::cZ nv (M.file i).aN::_):=C.gZ 3 [0,2] rfl rfl;have N:=f.dD 1 _ rfl;obtain ⟨E,H,I,rfl⟩:=Gm f.bZ;have t:=yL f f.bZ.rd oQ;go_wp2_with (go_at_call 74;go_must (refine t.mono ?_);rintro e O ⟨P,rfl,a,y,z,A,rfl⟩;have Q:=a.bZ.uJ 0;have R:=a.bZ.uJ 2;have S:=a.bZ.dD 0 _ rfl;have T:=a.bZ.dD 2 _ rfl);refine O9 ?_;refine D.o _ _ ?_;have J:=(a.bZ.set 0 (.slice y z A)).set 2 (.slice none 0 0)
    refine lN.fA (fv:= .slice y z A) (nv:= .slice E H I) (wv:= .slice none 0 0) (ws:=[]) rfl ?_;have L:au w0 _ (aK 182 3 (.slice none 0 0) []::rW []::_::_::_::aK _ _ _ _::rW _::_):=au.iW.2 (au.ng.2 J);exact L.gZ 7 [2,3,4,0,1] rfl rfl
 ·have hf:=ED (s:=s) hR ho;have iT:Hid (M.dY s=(M,12)):=by show _=_;simp [aG.dY,ho]
  clear ho;go_enter func56,ntmps56;refine Fb ?_;exact O1
theorem Kt {lb:Bs} (hr:Ro w0 F (bK 1 bv (aI lb))){A:aO} (h:au w0 w (A::F)):∃ a n c,bv=.slice a n c/\n=lb.length:=by
 obtain ⟨a,n,c,rfl,hl,_⟩:=hr w h.drop;rw [bP,aiR]at hl;exact ⟨a,n,c,rfl,hl.symm⟩
theorem Ja (hM:M.Ok K) (hK:K<=1099511627776) (h:au w0 w (aV m M::F)) (s:ByteArray) (lb:Bs) (hr:Ro w0 F (bK 1 bv (aI lb))) :
  Calls prog 38 #[aW m,.string s,bv] w (bf λv w'=>v=dS (M.append s lb).2/\au w0 w' (aV m (M.append s lb).1::F)):=by
 obtain ⟨bs,fb,nb,wv,H,r⟩:=aV.open h;cases ho:M.off
 ·cases hn:dN M.aN s with
  |none=>
   obtain ⟨T,U,bc,rfl,f⟩:=Kt hr h;clear f;have hf:=EC (s:=s) r ho hn;have a:Hid (M.append s lb=(M,9)):=by show _=_;simp [aG.append,ho,hn]
   clear ho hn hr;go_enter func38,ntmps38;go_wp2_with (go_at_call 76;refine hf.mono ?_;rintro e n ⟨v,rfl,rfl,rfl⟩);go_ret;exact ⟨dS 9,rfl,by rw [a.o],by rw [a.o];exact h⟩
  |some i=>
   have hf:=EF (s:=s) r ho hn;have hid:i<M.dU.length:=hM.jR.qG (s,i) (lZ hn);obtain ⟨T,U,bc,rfl,f⟩:=Kt hr h;have t:=auK (w:=w.drew) (m:=m) (M:=M) (fb:=fb) (nb:=nb) (wv:=wv) (bs:=bs) r.drew H hM.jR.qG (by have:=hM.aia;omega);have u:M.zI=M.cO:=by simp [aG.zI,ho]
   rw [u]at t;have aa:=hM.aia;have ab:=hM.room;have L:=r.dD 0 _ rfl;have Hr:=uQ hr;clear hr;clear u;by_cases b:(M.room:Int)-M.cO<lb.length
   ·have a:Hid (M.append s lb=(M,11)):=by show _=_;simp [aG.append,ho,hn,b]
    clear ho hn;subst f;have j:IntKind.i64.wrap ((M.room:Int)-(M.cO:Int))=(M.room:Int)-(M.cO:Int):=abR _ oQ;go_enter func38,ntmps38;go_wp2_with (go_at_call 76;refine hf.mono ?_;rintro e n ⟨v,rfl,rfl,rfl⟩);refine gK [8,9] (λw'=>w'.cell? ⟨m,0,none⟩=some (.int .i64 M.room)) aC ?_;have x:=L;refine jh (i:=0) (v:=?_) rfl aC (λ_ _ _ h=>h) (Or.inl ⟨by rfl,?_⟩) ?_;rotate_left;focus ((intro c;go_simp);first|done|(with_reducible rfl))
    refine jh (i:=1) (v:=?_) rfl aC (λ_ _ _ h=>h) (Or.inl ⟨by rfl,?_⟩) ?_;rotate_left;focus ((intro c;go_simp);first|done|(with_reducible rfl))
    refine jh (i:=2) (v:=?_) rfl aC (λ_ _ _ h=>h) (Or.inl ⟨by rfl,?_⟩) ?_;rotate_left;focus ((intro c;go_simp);first|done|(with_reducible rfl))
    refine jh (i:=3) (v:=?_) rfl aC (λ_ _ _ h=>h) (Or.inl ⟨by rfl,?_⟩) ?_;rotate_left;focus ((intro c;go_simp);first|done|(with_reducible rfl))
    refine jh (i:=4) (v:=?_) rfl aC (λ_ _ _ h=>h) (Or.inl ⟨by rfl,?_⟩) ?_;rotate_left;focus ((intro c;go_simp);first|done|(with_reducible rfl))
    refine uY (i:=5) (v:=?_) rfl aC (λ_ _ _ h=>h) (Or.inl ⟨by rfl,?_⟩) aQ ?_;rotate_left;focus ((intro c y;go_split_ands;go_simp);first|done|(with_reducible rfl))
    refine jh (i:=6) (v:=?_) rfl aC (λ_ _ _ h=>h) (Or.inl ⟨by rfl,?_⟩) ?_;rotate_left;focus ((intro c;go_simp);first|done|(with_reducible rfl))
    refine wY (i:=7) rfl aC (λK hK=>?_);go_simp;refine t.mono ?_;rintro e n ⟨v,rfl,rfl,d⟩;refine hK _ _ (.inr (.inl (d.dD 0 _ rfl))) ?_;clear hK K x;refine jh (i:=8) (v:=?_) rfl aC (λ_ _ _ h=>h) (Or.inl ⟨by rfl,?_⟩) ?_;rotate_left;focus ((intro c;go_simp);first|done|(with_reducible rfl))
    refine jh (i:=9) (v:=?_) rfl aC (λ_ _ _ h=>h) (Or.inl ⟨by rfl,?_⟩) ?_;rotate_left;focus ((intro c;go_simp);first|done|(with_reducible rfl))
    refine fK aC ?_;clear j;go_wp2;go_ret;exact ⟨dS 11,rfl,by rw [a.o],by rw [a.o];exact aV.fA H d⟩
   have I:decide ((M.room:Int)-M.cO<lb.length)=false:=by rw [ai9];exact b
   cases hstep:M.step.2
   ·have a:Hid (M.append s lb=(M.step.1,12)):=by show _=_;simp [aG.append,ho,hn,b,hstep]
    have N:=uQ hstep;clear ho hn hstep b;subst f;have j:IntKind.i64.wrap ((M.room:Int)-(M.cO:Int))=(M.room:Int)-(M.cO:Int):=abR _ oQ;go_enter func38,ntmps38;go_wp2_with (go_at_call 76;refine hf.mono ?_;rintro e n ⟨v,rfl,rfl,rfl⟩);refine gK [8,9] (λw'=>w'.cell? ⟨m,0,none⟩=some (.int .i64 M.room)) aC ?_;have x:=L;refine jh (i:=0) (v:=?_) rfl aC (λ_ _ _ h=>h) (Or.inl ⟨by rfl,?_⟩) ?_;rotate_left;focus ((intro c;go_simp);first|done|(with_reducible rfl))
    refine jh (i:=1) (v:=?_) rfl aC (λ_ _ _ h=>h) (Or.inl ⟨by rfl,?_⟩) ?_;rotate_left;focus ((intro c;go_simp);first|done|(with_reducible rfl))
    refine jh (i:=2) (v:=?_) rfl aC (λ_ _ _ h=>h) (Or.inl ⟨by rfl,?_⟩) ?_;rotate_left;focus ((intro c;go_simp);first|done|(with_reducible rfl))
    refine jh (i:=3) (v:=?_) rfl aC (λ_ _ _ h=>h) (Or.inl ⟨by rfl,?_⟩) ?_;rotate_left;focus ((intro c;go_simp);first|done|(with_reducible rfl))
    refine jh (i:=4) (v:=?_) rfl aC (λ_ _ _ h=>h) (Or.inl ⟨by rfl,?_⟩) ?_;rotate_left;focus ((intro c;go_simp);first|done|(with_reducible rfl))
    refine uY (i:=5) (v:=?_) rfl aC (λ_ _ _ h=>h) (Or.inl ⟨by rfl,?_⟩) aQ ?_;rotate_left;focus ((intro c y;go_split_ands;go_simp);first|done|(with_reducible rfl))
    refine jh (i:=6) (v:=?_) rfl aC (λ_ _ _ h=>h) (Or.inl ⟨by rfl,?_⟩) ?_;rotate_left;focus ((intro c;go_simp);first|done|(with_reducible rfl))
    refine wY (i:=7) rfl aC (λK hK=>?_);go_simp;refine t.mono ?_;rintro e n ⟨v,rfl,rfl,d⟩;refine hK _ _ (.inr (.inl (d.dD 0 _ rfl))) ?_;clear hK K x;refine jh (i:=8) (v:=?_) rfl aC (λ_ _ _ h=>h) (Or.inl ⟨by rfl,?_⟩) ?_;rotate_left;focus ((intro c;go_simp);first|done|(with_reducible rfl))
    refine jh (i:=9) (v:=?_) rfl aC (λ_ _ _ h=>h) (Or.inl ⟨by rfl,?_⟩) ?_;rotate_left;focus ((intro c;go_simp);first|done|(with_reducible rfl))
    refine fK aC ?_;clear j;have g:=Fz d hM.left;rw [N.o]at g;go_wp2_with (go_at_call 82;refine g.mono ?_;rintro e V ⟨v,rfl,rfl,o⟩);go_ret;refine ⟨dS 12,rfl,by rw [a.o],?_⟩;rw [a.o];exact aV.fA (bs:=bs) (fb:=fb) (nb:=nb) (wv:=wv) (by rw [M.qg.2.2.2.1];exact H) (Fe o)
   ·have a:Hid (M.append s lb=(M.step.1.lW i ((M.file i).do ⟨false,0,lb⟩),0)):=by show _=_;simp [aG.append,ho,hn,b,hstep]
    have N:=uQ hstep;have z:M.step.1.file i=M.file i:=by unfold aG.file;rw [M.qg.2.2.2.1]
    have l:=hM.file i;have W:lb.length<=16777216:=oQ;clear ho hn hstep b;subst f;generalize y:bs.getD i 0=q at hf;have X:=uQ y;clear y;have O:=uQ z;clear z;have A:=uQ l;clear l;have j:IntKind.i64.wrap ((M.room:Int)-(M.cO:Int))=(M.room:Int)-(M.cO:Int):=abR _ oQ;go_enter func38,ntmps38;go_wp2_with (go_at_call 76;refine hf.mono ?_;rintro e n ⟨v,rfl,rfl,rfl⟩);refine gK [8,9] (λw'=>w'.cell? ⟨m,0,none⟩=some (.int .i64 M.room)) aC ?_;have x:=L;refine jh (i:=0) (v:=?_) rfl aC (λ_ _ _ h=>h) (Or.inl ⟨by rfl,?_⟩) ?_;rotate_left;focus ((intro c;go_simp);first|done|(with_reducible rfl))
    refine jh (i:=1) (v:=?_) rfl aC (λ_ _ _ h=>h) (Or.inl ⟨by rfl,?_⟩) ?_;rotate_left;focus ((intro c;go_simp);first|done|(with_reducible rfl))
    refine jh (i:=2) (v:=?_) rfl aC (λ_ _ _ h=>h) (Or.inl ⟨by rfl,?_⟩) ?_;rotate_left;focus ((intro c;go_simp);first|done|(with_reducible rfl))
    refine jh (i:=3) (v:=?_) rfl aC (λ_ _ _ h=>h) (Or.inl ⟨by rfl,?_⟩) ?_;rotate_left;focus ((intro c;go_simp);first|done|(with_reducible rfl))
    refine jh (i:=4) (v:=?_) rfl aC (λ_ _ _ h=>h) (Or.inl ⟨by rfl,?_⟩) ?_;rotate_left;focus ((intro c;go_simp);first|done|(with_reducible rfl))
    refine uY (i:=5) (v:=?_) rfl aC (λ_ _ _ h=>h) (Or.inl ⟨by rfl,?_⟩) aQ ?_;rotate_left;focus ((intro c y;go_split_ands;go_simp);first|done|(with_reducible rfl))
    refine jh (i:=6) (v:=?_) rfl aC (λ_ _ _ h=>h) (Or.inl ⟨by rfl,?_⟩) ?_;rotate_left;focus ((intro c;go_simp);first|done|(with_reducible rfl))
    refine wY (i:=7) rfl aC (λK hK=>?_);go_simp;refine t.mono ?_;rintro e n ⟨v,rfl,rfl,d⟩;refine hK _ _ (.inr (.inl (d.dD 0 _ rfl))) ?_;clear hK K x;refine jh (i:=8) (v:=?_) rfl aC (λ_ _ _ h=>h) (Or.inl ⟨by rfl,?_⟩) ?_;rotate_left;focus ((intro c;go_simp);first|done|(with_reducible rfl))
    refine jh (i:=9) (v:=?_) rfl aC (λ_ _ _ h=>h) (Or.inl ⟨by rfl,?_⟩) ?_;rotate_left;focus ((intro c;go_simp);first|done|(with_reducible rfl))
    refine fK aC ?_;clear j;have g:=Fz d hM.left;rw [N.o]at g;go_wp2_with (go_at_call 82;fail);refine g.mono ?_;rintro e V ⟨v,rfl,rfl,o⟩;have P:bs.length=M.step.1.dU.length:=by rw [M.qg.2.2.2.1];exact H
    have B:i<M.step.1.dU.length:=by rw [M.qg.2.2.2.1];exact hid
    obtain ⟨G,J,Y⟩:=VN P B (Fe o);rw [O.o,X.o]at J;rw [X.o]at Y;have C:=Hr.o V (J.gZ 6 [] rfl rfl);have D:=yL J C oQ;go_wp2_with (go_at_call 74;fail);refine D.mono ?_;rintro e w3 ⟨v2,rfl,Q,a2,n2,k2,rfl⟩;obtain ⟨fv,nv,ac,ws,E,Z⟩:=lN.open Q.bZ;have R:=alU (bv:= .slice a2 n2 k2) ⟨false,0,lb⟩ (Z.gZ 6 [0,1,2,3,4,5] rfl rfl) E ⟨(λh=>by cases h),λ_=>by have:=A.o.zD;simp only;omega⟩ (abQ A.o.wC hK);clear Z E g D C J t;go_wp2_with (go_at_call 90;go_must (refine R.mono ?_);rintro e w4 ⟨v4,rfl,S⟩);go_ret;refine ⟨dS 0,rfl,by rw [a.o],?_⟩;rw [a.o];exact Y _ _ S
 ·obtain ⟨T,U,bc,rfl,f⟩:=Kt hr h;clear f;have hf:=ED (s:=s) r ho;have a:Hid (M.append s lb=(M,12)):=by show _=_;simp [aG.append,ho]
  clear ho hr;go_enter func38,ntmps38;go_wp2_with (go_at_call 76;refine hf.mono ?_;rintro e n ⟨v,rfl,rfl,rfl⟩);go_ret;exact ⟨dS 12,rfl,by rw [a.o],by rw [a.o];exact h⟩
theorem KG (hM:M.Ok K) (h:au w0 w (aV m M::F)) :
  Calls prog 57 #[aW m] w (bf λv w'=>v=dS M.fU.2/\au w0 w' (aV m M.fU.1::F)):=by
 obtain ⟨bs,fb,nb,wv,hl,f⟩:=aV.open h;have hd:=Ew f;cases ho:M.off
 ·rw [ho]at hd;have b:=Fz f hM.left;cases hstep:M.step.2
  ·rw [hstep]at b;have iT:Hid (M.fU=(M.step.1,12)):=by show _=_;simp [aG.fU,ho,hstep]
   clear ho hstep;go_enter func57,ntmps57;go_wp2_with (first|(go_at_call 58;refine hd.mono ?_;rintro e c ⟨v,rfl,rfl,rfl⟩)|(go_at_call 82;refine b.mono ?_;rintro e c ⟨v,rfl,rfl,hS1⟩));exact J8
  ·rw [hstep]at b;have iT:Hid (M.fU=({ M.step.1 with jo:=M.aN,waits:=[] },0)):=by show _=_;simp [aG.fU,ho,hstep]
   clear ho hstep;go_enter func57,ntmps57;go_wp2_with (first|(go_at_call 58;refine hd.mono ?_;rintro e c ⟨v,rfl,rfl,rfl⟩)|(go_at_call 82;fail));refine b.mono ?_;rintro e c ⟨v,rfl,rfl,hS1⟩;have o:=hS1.dD 2 _ rfl;have d:=alu hS1.bZ;go_wp2_with (go_at_call 60;go_must (refine d.mono ?_);rintro e r ⟨v,rfl,g,rfl,a⟩;have s:=a.jS.dD 1 _ rfl;have t:=a.jS.dD 3 _ rfl;have u:=a.jS.uJ 1;have x:=a.jS.uJ 3);refine O9 ?_;have j:=(a.jS.set 1 (.map (some g))).set 3 (.slice none 0 0);obtain ⟨y,z,l,i,A⟩:=M.qg;refine aV.fA (bs:=bs) (fb:=g) (nb:=nb) (wv:= .slice none 0 0) (by simp only [i];exact hl) ?_;have n:au w0 _ (aK 135 3 (.slice none 0 0) []::_::_::_::_::_::aK _ _ _ _::F):=au.iW.2 j;unfold Bc;simp only [l,i];exact n.gZ 7 [1,3,4,2,0] rfl rfl
 ·rw [ho]at hd;have iT:Hid (M.fU=(M,12)):=by show _=_;simp [aG.fU,ho]
  clear ho;go_enter func57,ntmps57;go_wp2_with (go_at_call 58;refine hd.mono ?_;rintro e c ⟨v,rfl,rfl,rfl⟩);exact O1
theorem ZV:∀ (ws:List (jQ×Value)) (i:Nat) (p:jQ×Value),ws[i]?=some p->∃ G:aO,rW ws=fP (cZ p.2 p.1.b) G
 |[],_,_,h=>by cases h
 |q::ws,0,p,h=>by
  simp at h;subst h;exact ⟨rW ws,rfl⟩
 |q::ws,i+1,p,h=>by
  obtain ⟨G,hG⟩:=ZV ws i p yJ0;refine ⟨fP (cZ q.2 q.1.b) G,?_⟩;show fP (cZ q.2 q.1.b) (rW ws)=_;rw [hG,zF]
theorem ZR (ws:List (jQ×Value)) (i:Nat) (p:jQ×Value) (h:ws[i]?=some p) :
  (ws.flatMap qC)[i*3]?=some (.bool p.1.cut)/\(ws.flatMap qC)[i*3+1]?=some (.int .i64 p.1.n)/\(ws.flatMap qC)[i*3+2]?=some p.2:=by
 induction ws generalizing i with
 |nil=>cases h
 |cons q ws ih=>
  cases i with
  |zero=>simp at h;subst h;exact ⟨rfl,rfl,rfl⟩
  |succ i=>
   obtain ⟨h1,h2,h3⟩:=ih i yJ0;have e:∀ j,(List.flatMap qC (q::ws))[(i+1)*3+j]?=(List.flatMap qC ws)[i*3+j]?:=by
    intro j;rw [aiN,aiP (by simp [qC];omega)]
    congr 1
    simp [qC];omega
   exact ⟨(e 0).trans h1,(e 1).trans h2,(e 2).trans h3⟩
theorem ail {ws:List (jQ×Value)}{g n cap:Nat} (h:au w0 w (aK 182 3 (.slice (some ⟨g,0,none⟩) n cap) (ws.flatMap qC)::F)){i:Nat}{p:jQ×Value} (hi:ws[i]?=some p) :
  w.cell? ⟨g,i*3,none⟩=some (.bool p.1.cut)/\w.cell? ⟨g,i*3+1,none⟩=some (.int .i64 p.1.n)/\w.cell? ⟨g,i*3+2,none⟩=some p.2:=by
 obtain ⟨f,j,l⟩:=ZR ws i p hi;rcases h.nV with ⟨c,_⟩|⟨b,o,e,r,c,s,hn,t,m,a,d⟩
 ·cases c
 ·cases c;exact ⟨d.dD _ _ (qy a f),d.dD _ _ (qy a j),d.dD _ _ (qy a l)⟩
def dJ (l:List Int):List Value:=l.map (.int .i64)
def rZ (x:Int):Prop:= -9223372036854775808<=x/\x<=9223372036854775807
def lS (v:Value):Prop:=∃ a n c,v=.slice a n c/\n<=c/\c<=9223372036854775807
theorem ad8 (l:List Int) (j:Nat):bD (l.drop j) 0=bD l j:=by
 unfold bD;rw [abY,anv,abY];rfl
theorem Ak {a:Option Addr}{n c:Nat}{xs:List Value} (h:bK 1 (.slice a n c) xs w){i:Nat}{x:Value} (hi:xs[i]?=some x) :
  ∃ B off,a=some ⟨B,off,none⟩/\w.cell? ⟨B,off+i,none⟩=some x:=by
 obtain ⟨t,u,v,l,z,j⟩:=h;cases l;obtain ⟨b,rfl,e⟩:=j i x hi;have m:=(abM.1 hi).1;obtain ⟨y,o⟩:∃ y,xs[0]?=some y:=⟨xs[0]'oQ,aaf _⟩;obtain ⟨A,f,g⟩:=j 0 y o;cases f;obtain ⟨B,off,d⟩:=b;have r:d=none:=by simpa [Addr.add] using World.cell?_spot g
 subst r;refine ⟨B,off,rfl,?_⟩;unfold Addr.add at e;split at e
 ·rename_i s;subst s;exact e
 ·exact e
theorem adu(h:C:=by
 by_cases hk:k<n
 ·have hk1:(k:Int)<(n:Int):=oQ;have hk2:(k:Int)<=(c:Int):=oQ;have e:=uQ (show min n k=k by omega);go_enter Xk,Xl;go_wp2;go_ret;exact ⟨.slice a k c,rfl,by rw [e.o],rfl⟩
 ·have hk1:¬ (k:Int)<(n:Int):=oQ;have e:=uQ (show min n k=n by omega);go_enter Xk,Xl;go_wp2;go_ret;exact ⟨.slice a n c,rfl,by rw [e.o],rfl⟩):C:=h
abbrev fG.Xk:=@func35
abbrev fG.Xl:=@ntmps35
open fG in
theorem alB (a:Option Addr) (n c k:Nat) (h1:n<=c) (h2:c<=9223372036854775807) (w:World) :
  Calls prog 35 #[.slice a n c,.int .i64 k] w (bf λv w'=>v=.slice a (min n k) c/\w=w'):=adu
abbrev fH.Xk:=@func17
abbrev fH.Xl:=@ntmps17
open fH in
theorem apO (a:Option Addr) (n c k:Nat) (h1:n<=c) (h2:c<=9223372036854775807) (w:World) :
  Calls prog 17 #[.slice a n c,.int .i64 k] w (bf λv w'=>v=.slice a (min n k) c/\w=w'):=adu
theorem aq8 {a:Option Addr}{n c:Nat}{xs:List Value} (h:bK 1 (.slice a n c) xs w) (k:Nat):bK 1 (.slice a (min n k) c) (xs.take k) w:=by
 obtain ⟨a',n',c',he,hl,hx⟩:=h;cases he;refine ⟨a,min n k,c,rfl,by rw [abA];omega,λi x hi=>?_⟩;rw [ak7]at hi;split at hi
 ·exact hx i x hi
 ·cases hi
theorem as9 (la:Bs) (ha:Ro w0 F (bK 1 av (aI la))) (hb:Ro w0 F (bK 1 bv (aI la))) (h:au w0 w F) (hlen:la.length<=9223372036854775807) :
  Calls prog 54 #[av,bv] w (bf λv w'=>v=.bool true/\au w0 w' F):=by
 obtain ⟨y,z,A,rfl,b,_⟩:=id (ha w h);obtain ⟨B,C,bc,rfl,c,_⟩:=id (hb w h);rw [bP,aiR]at b c;subst b;obtain rfl:=c.symm;have n:=uQ ha;have o:=uQ hb;clear ha hb;go_enter func54,ntmps54;go_wp2
 go_loopg [5] la.length (λg r s=>∃ i:Nat,g=la.length-i/\i<=la.length/\r=.int .i64 i/\au w0 s F)
 case atStart=>exact ⟨0,rfl,acn _,rfl,h⟩
 case round=>
  obtain ⟨i,rfl,t,rfl,d⟩:=hrel;by_cases hi:i<la.length
  ·have e:(aI la)[i]?=some (.int .u8 (la[i]'hi).toNat):=by unfold aI;simp [hi]
   obtain ⟨bk,off,rfl,l⟩:=Ak (n.o _ d) e;obtain ⟨bk2,off2,rfl,m⟩:=Ak (o.o _ d) e;generalize ((la[i]'hi).toNat:Int)=X at l m;clear e;have f:(i:Int)<(la.length:Int):=oQ;have j:=d.drew;go_wp2;refine gK [8] (λw'=>w'.cell? ⟨bk,off+i,none⟩=some (.int .u8 X)/\w'.cell? ⟨bk2,off2+i,none⟩=some (.int .u8 X)) aC ?_;have u:_/\_:=And.intro l m;refine jh (i:=0) (v:=?_) rfl aC (λ_ _ _ h=>h) (Or.inl ⟨by rfl,?_⟩) ?_;rotate_left;focus ((intro a;go_simp);first|done|(with_reducible rfl))
   refine jh (i:=1) (v:=?_) rfl aC (λ_ _ _ h=>h) (Or.inl ⟨by rfl,?_⟩) ?_;rotate_left;focus ((intro a;go_simp);first|done|(with_reducible rfl))
   refine jh (i:=2) (v:=?_) rfl aC (λ_ _ _ h=>h) (Or.inl ⟨by rfl,?_⟩) ?_;rotate_left;focus ((intro a;go_simp);first|done|(with_reducible rfl))
   refine uY (i:=3) (v:=?_) rfl aC (λ_ _ _ h=>h) (Or.inl ⟨by rfl,?_⟩) aQ ?_;rotate_left;focus ((intro a x;go_split_ands;go_simp);first|done|(with_reducible rfl))
   refine jh (i:=4) (v:=?_) rfl aC (λ_ _ _ h=>h) (Or.inl ⟨by rfl,?_⟩) ?_;rotate_left;focus ((intro a;go_simp);first|done|(with_reducible rfl))
   refine jh (i:=5) (v:=?_) rfl aC (λ_ _ _ h=>h) (Or.inl ⟨by rfl,?_⟩) ?_;rotate_left;focus ((intro a;go_simp);first|done|(with_reducible rfl))
   refine jh (i:=6) (v:=?_) rfl aC (λ_ _ _ h=>h) (Or.inl ⟨by rfl,?_⟩) ?_;rotate_left;focus ((intro a;go_simp);first|done|(with_reducible rfl))
   refine uY (i:=7) (v:=?_) rfl aC (λ_ _ _ h=>h) (Or.inl ⟨by rfl,?_⟩) aQ ?_;rotate_left;focus ((intro a x;go_split_ands;go_simp);first|done|(with_reducible rfl))
   refine jh (i:=8) (v:=?_) rfl aC (λ_ _ _ h=>h) (Or.inl ⟨by rfl,?_⟩) ?_;rotate_left;focus ((intro a;go_simp);first|done|(with_reducible rfl))
   refine fK aC ?_;clear u;simp only [kW]
   go_frame
   go_wp2
   go_roundg (la.length-(i+1))
   case measure=>omega
   case rel=>exact ⟨i+1,rfl,by omega,by go_num,j⟩
  ·obtain rfl:i=la.length:=oQ;have f:¬ (la.length:Int)<(la.length:Int):=oQ;go_wp2;go_ret;exact ⟨.bool true,rfl,rfl,d⟩
def within (x lo hi:Int):Int:=if x<lo then lo else if hi<x then hi else x
theorem XP (x lo hi:Int) (w:World):Calls prog 6 #[.int .i64 x,.int .i64 lo,.int .i64 hi] w (bf λv w'=>v=.int .i64 (within x lo hi)/\w=w'):=by
 by_cases h1:x<lo
 ·have e:=uQ (show within x lo hi=lo by simp [within,h1])
  go_in
  go_wp2;go_ret;exact ⟨.int .i64 lo,rfl,by rw [e.o],rfl⟩
 ·by_cases h2:hi<x
  ·have e:=uQ (show within x lo hi=hi by simp [within,h1,h2])
   go_in
   go_wp2;go_ret;exact ⟨.int .i64 hi,rfl,by rw [e.o],rfl⟩
  ·have e:=uQ (show within x lo hi=x by simp [within,h1,h2])
   go_in
   go_wp2;go_ret;exact ⟨.int .i64 x,rfl,by rw [e.o],rfl⟩
theorem aac (h:au w0 w F) (l:Bs) (hr:bK 1 bv (aI l) w) (hl:l.length<=1099511627776) :
  Calls prog 67 #[bv] w (bf λv w'=>au w0 w' (cZ v l::F)/\∃ a n c,v=.slice a n c):=by
 obtain ⟨i,hi,d,e,f⟩:=Aa;obtain ⟨a,n,c,rfl,hn,_⟩:=id hr;rw [bP,aiR]at hn;have m:au w0 w (aK 5 1 (.slice none 0 0) []::F):=au.iW.2 h;have g:([]:List Value).length+(aI l).length<=maxLen:=by rw [bP];unfold maxLen;simp;omega
 have j:(([]:List Value).length+(aI l).length)*i.bytes<=140737488355328:=by rw [bP,f];simp;omega
 go_in
 go_wp2_with (at_builtin;go_must (refine AA aA _ _ _ aA _ i _ underlying59 hi d e aA oQ aA aA (Bo _) m hr g j ?_);intro s t b o);obtain ⟨u,x,y,rfl,_⟩:=id b.rd;go_wp2;go_ret;exact ⟨_,rfl,b,_,_,_,rfl⟩
def iO (w:World):Prop:=∀ i,i<16->w.cell? ⟨0,i,none⟩=some (.int .u32 (ay.half.getD i 0:Nat))
theorem UR (s:Nat) (hs:s<4294967296):bits .xor .u32 IntKind.u32.max (s:Int)=((4294967295-s:Nat):Int):=by
 have h1:IntKind.u32.max=((4294967295:Nat):Int):=aU;rw [h1,u32_xor_nat _ _ oQ hs]
 congr 1
 have h2:(4294967295 ^^^ s)=(BitVec.allOnes 32 ^^^ BitVec.ofNat 32 s).toNat:=by
  rw [BitVec.toNat_xor,BitVec.toNat_allOnes,BitVec.toNat_ofNat,auE hs]
 rw [h2,BitVec.allOnes_xor,BitVec.toNat_not,BitVec.toNat_ofNat,auE hs]
theorem Zi (y:Nat) (hy:y<4294967296):bits .and .u32 (y:Int) 15=((y%16:Nat):Int):=by
 have:=u32_and_nat y 15 hy oQ;rw [nat_mask4]at this;exact this
theorem Qs (y h:Nat) (hy:y<4294967296) (hh:h<4294967296):bits .xor .u32 ((y:Int)/16) (h:Int)=((y/16 ^^^ h:Nat):Int):=by
 have:=u32_xor_nat (y/16) h oQ hh;rw [<-this]
 rfl
theorem alv (s:Nat) (hs:s<4294967296) (l:Bs) (hH:Ro w0 F iO) (hr:Ro w0 F (bK 1 bv (aI l))) (h:au w0 w F) (hl:l.length<=1099511627776) :
  Calls prog 228 #[.int .u32 s,bv] w (bf λv w'=>v=.int .u32 (ay.Jh s l:Nat)/\w=w'):=by
 obtain ⟨a,n,c,rfl,hn,_⟩:=id (hr w h);rw [bP,aiR]at hn;subst hn;have hnot:=UR s hs;obtain ⟨f,ht0⟩:∃ f,f=4294967295-s:=⟨_,rfl⟩;rw [<-ht0]at hnot;have ht:f<4294967296:=oQ;have hHw:=(hH w h);have Ht0:=uQ ht0;clear hH hs ht0
 go_in
 go_wp2;clear hnot
 go_loopg [5,12] l.length (λg xv iq wr=>∃ (i:Nat),g=l.length-i/\i<=l.length/\iq=.int .i64 i/\xv=.int .u32 ((l.take i).foldl ay.rD f:Nat)/\wr=w)
 case atStart=>exact ⟨0,rfl,acn _,rfl,rfl,rfl⟩
 case round=>
  obtain ⟨i,rfl,hi,rfl,rfl,rfl⟩:=hrel;have b:(l.take i).foldl ay.rD f<4294967296:=ay.Tq _ _ ht;by_cases hi':i<l.length
  ·have hb:(aI l)[i]?=some (.int .u8 (l[i]'hi').toNat):=by unfold aI;simp [hi']
   obtain ⟨bk,off,rfl,c1⟩:=Ak (hr _ h) hb;have d:(l.take (i+1)).foldl ay.rD f=ay.zq (ay.zq ((l.take i).foldl ay.rD f ^^^ (l[i]'hi').toNat)):=by
    rw [ajA hi',asl];rfl
   have hic:i<l.length:=oQ;have hwi:IntKind.i64.wrap (i+1)=i+1:=abR _ (by have h1:=hl;omega);have hcb:=(l[i]'hi').toNat_lt;have e:=uQ d;clear hb d;generalize (l[i]'hi').toNat=cb at *
   generalize (l.take i).foldl ay.rD f=x at *
   have e1:=u32_xor_nat x cb b oQ;have hy1:x ^^^ cb<4294967296:=ay.DY b oQ;unfold ay.zq at e;generalize x ^^^ cb=y1 at *
   have e2:=Zi y1 hy1;have hz1:y1%16<16:=aqv _ oQ;have g1:=hHw (y1%16) hz1;have e3:=Qs y1 _ hy1 (ay.NM (y1%16));have hy2:y1/16 ^^^ ay.half.getD (y1%16) 0<4294967296:=ay.DY oQ (ay.NM _);generalize ay.half.getD (y1%16) 0=h1 at *
   generalize y1%16=z1 at *
   generalize y1/16 ^^^ h1=y2 at *
   have e4:=Zi y2 hy2;have hz2:y2%16<16:=aqv _ oQ;have g2:=hHw (y2%16) hz2;have e5:=Qs y2 _ hy2 (ay.NM (y2%16));generalize ay.half.getD (y2%16) 0=h2 at *
   generalize y2%16=z2 at *
   generalize y2/16 ^^^ h2=y3 at *
   have hcm:cb%4294967296=cb:=oQ;have awd:z1<16:=oQ;have awe:z2<16:=oQ;clear b hy1 hy2 hcb;go_wp2
   go_roundg (l.length-(i+1))
   case measure=>omega
   case rel=>exact ⟨i+1,rfl,aiW hi',by first|rfl|go_num,by rw [e.o],rfl⟩
  ·obtain rfl:i=l.length:=oQ;have hic:¬ l.length<l.length:=oQ;rw [ai0]at *
   have hn2:=UR _ b;have hfin:ay.Jh s l=4294967295-l.foldl ay.rD f:=by unfold ay.Jh;rw [Ht0.o]
   rw [<-hfin]at hn2;generalize l.foldl ay.rD f=x at *
   clear hi hi' b hfin;go_wp2;go_ret;exact ⟨_,rfl,rfl,rfl⟩
theorem SA (l:Bs) (f:Ro w0 F iO) (d:Ro w0 F (bK 1 bv (aI l))) (h:au w0 w F) (g:l.length<=1099511627776) :
  Calls prog 186 #[bv] w (bf λv w'=>v=.int .u32 (ay.lq l:Nat)/\w=w'):=by
 have ha:=alv 0 oQ l f d h g;have b:((0:Nat):Int)=0:=rfl;rw [b]at ha;obtain ⟨a,n,c,rfl,hn,_⟩:=id (d w h)
 go_in
 exact afI
theorem adk (hM:M.Ok K) (hK:K<=1099511627776) (hl:bs.length=M.dU.length) (x:lY) (h:au w0 w (Bc m M bs fb nb wv++F)) :
  Calls prog 83 #[aW m,.agg #[.string x.fr,.string x.to,vP bs x]] w (bf λ_ w'=>au w0 w' (aV m (M.kL x)::F)):=by
 refine (adi x (h.gZ 5 [0,1,4,2,3] rfl rfl) (abQ hM.wC hK)).mono ?_;rintro e c ⟨v,rfl,a,b⟩;refine ⟨v,rfl,aV.fA (fb:=fb) (nb:=nb) (wv:=a) (by simpa [aG.kL] using hl) ?_⟩;exact b.gZ 5 [0,1,3,4,2] rfl rfl
theorem BM (hM:M.Ok K) (hK:K<=1099511627776) (h:au w0 w (aV m M::F)) (s:ByteArray) :
  Calls prog 157 #[aW m,.string s] w (bf λv w'=>v=dS (M.dA s).2/\au w0 w' (aV m (M.dA s).1::F)):=by
 obtain ⟨bs,fb,nb,wv,hl,d⟩:=aV.open h;cases ho:M.off
 ·cases hn:dN M.aN s with
  |none=>
   have hf:=EC (s:=s) d ho hn;have iT:Hid (M.dA s=(M,9)):=by show _=_;simp [aG.dA,ho,hn]
   clear ho hn;go_enter func157,ntmps157;refine Pg ?_;exact Vs
  |some i=>
   have hf:=EF (s:=s) d ho hn;have a:=Fz d hM.left;cases hstep:M.step.2
   ·rw [hstep]at a;have iT:Hid (M.dA s=(M.step.1,12)):=by show _=_;simp [aG.dA,ho,hn,hstep]
    clear ho hn hstep;go_enter func157,ntmps157;go_wp2_with (first|(go_at_call 76;refine hf.mono ?_;rintro e w1 ⟨v,rfl,rfl,rfl⟩)|(go_at_call 82;refine a.mono ?_;rintro e w1 ⟨v,rfl,rfl,hS1⟩));exact J8
   ·rw [hstep]at a;have iT:Hid (M.dA s=(M.step.1.kL ⟨s,ByteArray.empty,0⟩,0)):=by show _=_;simp [aG.dA,ho,hn,hstep]
    have hl':bs.length=M.step.1.dU.length:=by rw [M.qg.2.2.2.1];exact hl
    have b:vP bs ⟨s,ByteArray.empty,0⟩=.pointer none:=by unfold vP;rw [abL rfl]
    have f:=uQ hl';have g:=uQ b;clear ho hn hstep hl' b;generalize l:bs.getD i 0=q at hf;have n:=uQ l;clear l;go_enter func157,ntmps157;go_wp2_with (first|(go_at_call 76;refine hf.mono ?_;rintro e w1 ⟨v,rfl,rfl,rfl⟩)|(go_at_call 82;fail));refine a.mono ?_;rintro e w1 ⟨v,rfl,rfl,hS1⟩;have c:=adk hM.step hK f.o ⟨s,ByteArray.empty,0⟩ (Fe hS1);rw [g.o]at c;go_wp2_with (go_at_call 83;go_must (refine c.mono ?_);rintro e o ⟨r,rfl,j⟩);refine O9 ?_;exact j
 ·have hf:=ED (s:=s) d ho;have iT:Hid (M.dA s=(M,12)):=by show _=_;simp [aG.dA,ho]
  clear ho;go_enter func157,ntmps157;refine Pg ?_;exact O1
section
variable {W:World}{P:aG}{cv nv ov:Value}
theorem ZH {l:Bs} (h:au w0 w (cZ v l::F)):lS v:=by
 rcases au.nV h with ⟨rfl,_⟩|⟨b,d,c,e,rfl,_,hn,_,a,_,_⟩
 ·exact ⟨_,0,0,rfl,abG _,by omega⟩
 ·exact ⟨_,_,_,rfl,hn,a⟩
theorem wz {a:Option Addr}{n c:Nat}{l:Bs} (h:au w0 w (cZ (.slice a n c) l::F)){i:Nat} (hi:i<l.length) (x:UInt8) :
  ∃ g,a=some ⟨g,0,none⟩/\w.cell? ⟨g,i,none⟩=some (.int .u8 (l[i]'hi).toNat)/\w.frozen? ⟨g,i,none⟩=false/\au w0 (w.setCell ⟨g,i,none⟩ (.int .u8 x.toNat)) (cZ (.slice a n c) (l.set i x)::F):=by
 rcases au.nV h with ⟨_,f,_⟩|⟨g,u,d,v,j,m,o,r,s,e,b⟩
 ·have:(aI l).length=0:=by rw [f];rfl
  rw [bP]at this;omega
 ·cases j;have hg:(aI l)[i]?=some (.int .u8 (l[i]'hi).toNat):=by unfold aI;simp [hi]
  refine ⟨g,rfl,b.dD i _ (qy e hg),b.uJ i,?_⟩;have t:=b.set i (.int .u8 x.toNat);refine au.pV t ?_ o (by simpa using r) s ?_
  ·rw [bP,akW,<-bP l];exact m
  ·rw [avS,List.take_set,e];unfold aI;rw [List.map_set]
theorem X6 (x y:UInt8):bits .xor .u8 (x.toNat:Int) (y.toNat:Int)=((x ^^^ y).toNat:Int):=by
 rw [u8_xor_nat _ _ x.toNat_lt y.toNat_lt,UInt8.toNat_xor]
theorem OM {T sz:Nat}{g n c:Nat}{xs:List Value} (h:au w0 w (aK T sz (.slice (some ⟨g,0,none⟩) n c) xs::F)) (i:Nat) (x:Value) :
  w.frozen? ⟨g,i,none⟩=false/\(∀ y,xs[i]?=some y->w.cell? ⟨g,i,none⟩=some y)/\au w0 (w.setCell ⟨g,i,none⟩ x) (aK T sz (.slice (some ⟨g,0,none⟩) n c) (xs.set i x)::F):=by
 rcases au.nV h with ⟨a,_⟩|⟨r,s,d,t,a,f,j,l,m,e,b⟩
 ·cases a
 ·cases a;refine ⟨b.uJ i,λy o=>b.dD i _ (qy e o),?_⟩;refine au.pV (b.set i x) (by rw [akW];exact f) j (by simpa using l) m ?_;rw [avS,List.take_set,e]
theorem Bh {l:Bs} (h:au w0 w (cZ v l::F)):∃ a n c,v=.slice a n c/\n<=c/\c<=9223372036854775807/\n=l.length:=by
 rcases au.nV h with ⟨rfl,g,_⟩|⟨b,i,e,j,rfl,f,hn,m,d,_,_⟩
 ·refine ⟨_,0,0,rfl,abG _,by omega,?_⟩;have:(aI l).length=0:=by rw [g];rfl
  rw [bP]at this;exact this.symm
 ·refine ⟨_,_,_,rfl,hn,d,?_⟩;rw [bP,aiR]at f;exact f.symm
theorem acN:(prog.info? 3).map (λi=>(i.zero,i.size,i.bytes))=some (some (.int .i64 0),1,8):=aC
theorem atV {l:List ByteArray}{i:Nat}{x:ByteArray} (h:l[i]?=some x):(nG l)[i]?=some (.string x):=by
 unfold nG;rw [ab4,h];rfl
theorem atX (l:List ByteArray):(nG l).length=l.length:=by unfold nG;simp
theorem Ro.tC {p:World->Prop}{L:List aO} (h:Ro w0 F p):Ro w0 (L++F) p:=by
 induction L with
 |nil=>exact h
 |cons A L ih=>exact ih.cons
end
theorem Ie (x:Nat) (hx:x<18446744073709551616) (h:au w0 w F) :
  Calls prog 204 #[.int .u64 x,.int .i64 4] w (bf λv w'=>au w0 w' (cZ v (ay.le x 4)::F)/\∃ a,v=.slice a 4 4):=by
 have E:=uQ hx;clear hx;have n:∀ w,(Instr.makeSlice 59 (.int .i64 4) (.int .i64 4)).run prog w=.ok (.slice (some ⟨w.heap.size,0,none⟩) 4 4) (w.alloc (.cells #[.int .u8 0,.int .u8 0,.int .u8 0,.int .u8 0] 5)):=λw=>by kernel_rfl
 go_enter func204,ntmps204;go_wp2_with fail;have t:=h.alloc (.cells #[.int .u8 0,.int .u8 0,.int .u8 0,.int .u8 0] 5);have u:au w0 (w.alloc (.cells #[.int .u8 0,.int .u8 0,.int .u8 0,.int .u8 0] 5)) (cZ (.slice (some ⟨w.heap.size,0,none⟩) 4 4) [0,0,0,0]::F):=au.pV t rfl (abG _) (abG _) yT0 rfl;obtain ⟨b,b1,b2,f,y,z,A,B,l⟩:∃ b b1 b2 f:UInt8,(x:Int)%256=b.toNat/\(x:Int)/256%256=b1.toNat/\(x:Int)/65536%256=b2.toNat/\(x:Int)/16777216%256=f.toNat/\ay.le x 4=[b,b1,b2,f]:=by
  refine ⟨_,_,_,_,?_,?_,?_,?_,rfl⟩
  all_goals (rw [ao4];omega)
 have o:=uQ l;clear l n t;generalize w.heap.size=q at *
 go_loopg [17] 4 (λg C D=>∃ (i:Nat) (e:Bs),g=4-i/\i<=4/\C=.int .i64 i/\e=(match i with|0=>[0,0,0,0]|1=>[b,0,0,0]|2=>[b,b1,0,0]|3=>[b,b1,b2,0]|_=>[b,b1,b2,f])/\au w0 D (cZ (.slice (some ⟨q,0,none⟩) 4 4) e::F))
 case atStart=>exact ⟨0,_,rfl,by omega,rfl,rfl,u⟩
 case round=>
  obtain ⟨i,e,rfl,hi,rfl,d,m⟩:=hrel;clear u;obtain rfl|rfl|rfl|rfl|rfl:i=0\/i=1\/i=2\/i=3\/i=4:=oQ
  ·obtain rfl:e=[0,0,0,0]:=d;obtain ⟨g,j,r,s,c⟩:=wz (i:=0) m yD0 b;cases j;go_wp2_with fail
   go_roundg 3
   case measure=>omega
   case rel=>exact ⟨1,[b,0,0,0],rfl,by omega,rfl,rfl,c⟩
  ·obtain rfl:e=[b,0,0,0]:=d;obtain ⟨g,j,r,s,c⟩:=wz (i:=1) m yD0 b1;cases j;go_wp2_with fail
   go_roundg 2
   case measure=>omega
   case rel=>exact ⟨2,[b,b1,0,0],rfl,by omega,rfl,rfl,c⟩
  ·obtain rfl:e=[b,b1,0,0]:=d;obtain ⟨g,j,r,s,c⟩:=wz (i:=2) m yD0 b2;cases j;go_wp2_with fail
   go_roundg 1
   case measure=>omega
   case rel=>exact ⟨3,[b,b1,b2,0],rfl,by omega,rfl,rfl,c⟩
  ·obtain rfl:e=[b,b1,b2,0]:=d;obtain ⟨g,j,r,s,c⟩:=wz (i:=3) m yD0 f;cases j;go_wp2_with fail
   go_roundg 0
   case measure=>omega
   case rel=>exact ⟨4,[b,b1,b2,f],rfl,by omega,rfl,rfl,c⟩
  ·obtain rfl:e=[b,b1,b2,f]:=d;go_wp2;go_ret;exact ⟨_,rfl,by rw [o.o];exact m,_,rfl⟩
open Go Go.Sl Go.aG Go.ChangeShapes Go.WideShapes Go.RowKit
section
variable {H:Type}{enc:TypeId×Value->H}{W:World}{base:Nat}{spare:Nat->Bool}{held:Bool}
theorem aa2 {α:Type} (k:Nat) (a:0<k):∀ (xs:List (List α)) (_:∀ x∈xs,x.length=k) (i:Nat) (y:α),xs.flatten[i]?=some y->∃ x,xs[i/k]?=some x/\x[i%k]?=some y
 |[],_,_,_,h=>by simp at h
 |x::xs,hl,i,y,h=>by
  have b:=hl x (.head _);rw [awz]at h;rcases anF i k with hi|hi
  ·rw [aiS oQ]at h;refine ⟨x,?_,?_⟩
   ·rw [Nat.div_eq_of_lt hi];rfl
   ·rw [auE hi];exact h
  ·rw [aiP oQ,b]at h;obtain ⟨z,c,d⟩:=aa2 k a xs (λq e=>hl q (.tail _ e)) (i-k) y h;have f:i/k=(i-k)/k+1:=by
    conv=>lhs;rw [show i=(i-k)+k by omega,Nat.add_div_right _ a]
   have g:=Nat.mod_eq_sub_mod hi;exact ⟨z,by rw [f];exact c,by rw [g];exact d⟩
theorem aa3 {α:Type} (k:Nat):∀ (xs:List (List α)) (_:∀ x∈xs,x.length=k),xs.flatten.length=xs.length*k
 |[],_=>by simp
 |x::xs,hl=>by
  rw [awz,aay,aa3 k xs (λq hq=>hl q (.tail _ hq)),hl x (.head _),aiT,Nat.succ_mul];omega
theorem ado {α:Type}{n:Nat}{p:Nat->α->Prop} (h:∀ i,i<n->∃ x,p i x):∃ l:List α,l.length=n/\∀ i x,l[i]?=some x->p i x:=by
 induction n with
 |zero=>exact ⟨[],rfl,λi x h=>by simp at h⟩
 |succ n c=>
  have⟨l,b,d⟩:=c λi hi=>h i (Nat.lt_succ_of_lt hi);have⟨x,e⟩:=h n (Nat.lt_succ_self n);refine ⟨l++[x],by simp [b],λi y a=>?_⟩;rcases awy i n with f|rfl|g
  ·rw [aiS oQ]at a;exact d i y a
  ·rw [aiP oQ,b,auP]at a;cases a;exact e
  ·rw [avA yO0]at a;cases a
theorem ael {t e:TypeId}{k fuel:Nat}{v:Value}{x:DataW H×List MemPlace} (G:P.underlying t=some (.slice e)) (I:P.cellsOf e=k) (F:0<k) (h:DataW.trod enc P W base spare held fuel t [v]=some x) :
  ∃ E:List (List Value),bK k v E.flatten W/\lS v/\∀ cs∈E,cs.length=k/\∃ n y,DataW.trod enc P W base spare held n e cs=some y:=by
 rcases Go.Deep.open_slice G h with ⟨b,_⟩|⟨a,len,cap,m,n,D,Pl,b,C,s,u,d,_,o⟩
 ·obtain rfl:v=.slice none 0 0:=by simpa using b
  exact ⟨[],J9 _ _ _,⟨_,_,_,rfl,abG _,by omega⟩,by simp⟩
 ·obtain rfl:v=.slice (some a) len cap:=by simpa using b
  have w:len<=m:=by rw [d];split <;> omega
  rw [I]at o;obtain ⟨l,z,f⟩:=ado (n:=len) λi hi=>o i oQ;have c:∀ cs∈l,cs.length=k:=by
   intro cs b;obtain ⟨i,hi,rfl⟩:=aqj b;obtain ⟨g,_⟩:=f i _ (aaf hi);exact (World.cells?_some g).2.1
  refine ⟨l,⟨some a,len,cap,rfl,by rw [aa3 k l c,z],λi y A=>⟨a,rfl,?_⟩⟩,⟨_,_,_,rfl,s,by unfold maxLen at u;omega⟩,λcs b=>⟨c cs b,?_⟩⟩
  ·have⟨cs,g,j⟩:=aa2 k F l c i y A;have⟨B,_⟩:=f _ _ g;have r:=(World.cells?_some B).2.2 (i%k) (aqv _ F);rw [Go.Deep.add_add,j]at r;rw [<-r]
   congr 2
   rw [alQ];exact (Nat.div_add_mod i k).symm
  ·obtain ⟨i,hi,rfl⟩:=aqj b;obtain ⟨_,j⟩:=f i _ (aaf hi);exact ⟨n,_,j⟩
theorem ap7 {t:TypeId}{fs:Array Field}{fuel:Nat}{cs:List Value}{x:DataW H×List MemPlace} (ht:P.underlying t=some (.struct fs)) (h:DataW.trod enc P W base spare held fuel t cs=some x) :
  cs.length=P.cellsOf t/\∀ (i:Nat) (f:Field),fs[i]?=some f->∃ n y,DataW.trod enc P W base spare held n f.type ((cs.drop f.offset).take (P.cellsOf f.type))=some y:=by
 obtain ⟨c,n,_,_,d,a,hf⟩:=DataW.trod_struct ht h;refine ⟨d,λi f hi=>⟨n,?_⟩⟩;have b:i<c.length:=by rw [a];exact (aol.1 hi).1
 exact ⟨c[i],by rw [hf i f hi];exact aaf b⟩
theorem UG {α β:Type}{f:α->β}{p:α->Prop}:∀ (l:List β) (_:∀ y∈l,∃ x,f x=y/\p x),∃ xs:List α,xs.map f=l/\∀ x∈xs,p x
 |[],_=>⟨[],rfl,by simp⟩
 |y::l,h=>by
  obtain ⟨x,b,c⟩:=h y (.head _);obtain ⟨xs,d,e⟩:=UG l λz a=>h z (.tail _ a);refine ⟨x::xs,by simp [b,d],λz a=>?_⟩;rcases ab9.1 a with rfl|a
  ·exact c
  ·exact e z a
def KJ (zs:List Int):Bs:=zs.map λz=>UInt8.ofNat z.toNat
theorem ZL {zs:List Int} (h:∀ z∈zs,(Lit.int .u8 z).wf=true):aI (KJ zs)=zs.map (.int .u8):=by
 unfold aI KJ;rw [ajr];apply anP;intro z hz;have hb:=bounds_u8 (h z hz);simp only [Function.comp,Value.int.injEq,true_and];rw [ao4];omega
theorem acL {t e:TypeId}{k:IntKind}{fuel:Nat}{v:Value}{x:DataW H×List MemPlace} (u:P.underlying t=some (.slice e)) (w:P.underlying e=some (.int k)) (A:P.cellsOf e=1) (h:DataW.trod enc P W base spare held fuel t [v]=some x) :
  ∃ l:List Int,bK 1 v (l.map (.int k)) W/\lS v/\∀ z∈l,(Lit.int k z).wf=true:=by
 obtain ⟨a,b,g,i⟩:=ael u A oQ h;obtain ⟨l,d,f⟩:=UG a λj c=>by
  obtain ⟨_,n,y,m⟩:=i j c;obtain ⟨z,o,_,r⟩:=avT w m;exact ⟨z,o.symm,r⟩
 refine ⟨l,?_,g,f⟩;rw [<-d]at b;have:(l.map λz:Int=>[Value.int k z]).flatten=l.map (.int k):=by
  clear b d f
  induction l with
  |nil=>rfl
  |cons z l s=>simp only [aij,awz,s];rfl
 rw [this]at b;exact b
theorem anY {t e:TypeId}{fuel:Nat}{v:Value}{x:DataW H×List MemPlace} (ht:P.underlying t=some (.slice e)) (he:P.underlying e=some (.int .u8)) (hc:P.cellsOf e=1) (h:DataW.trod enc P W base spare held fuel t [v]=some x) :
  ∃ l:Bs,bK 1 v (aI l) W/\lS v:=by
 obtain ⟨l,h1,h2,h3⟩:=acL ht he hc h;exact ⟨KJ l,by rw [ZL h3];exact h1,h2⟩
theorem anZ {t e:TypeId}{fuel:Nat}{v:Value}{x:DataW H×List MemPlace} (ht:P.underlying t=some (.slice e)) (he:P.underlying e=some (.int .i64)) (hc:P.cellsOf e=1) (h:DataW.trod enc P W base spare held fuel t [v]=some x) :
  ∃ l:List Int,bK 1 v (dJ l) W/\lS v/\∀ z∈l,rZ z:=by
 obtain ⟨l,h1,h2,h3⟩:=acL ht he hc h;exact ⟨l,h1,h2,λz hz=>bounds_i64 (h3 z hz)⟩
theorem ak8 {w:World}{a:Addr}{v:Value} (h:au W w [Sl.kP W]) (hc:W.cell? a=some v):w.cell? a=some v:=by
 have hlt:a.block<W.heap.size:=by
  rcases anF a.block W.heap.size with h1|h1
  ·exact h1
  ·unfold World.cell? at hc;rw [avQ h1]at hc;simp at hc
 unfold World.cell? at hc ⊢;rw [h.kP hlt];exact hc
theorem VO {v:Value}{k:Nat}{xs:List Value} (h:bK k v xs W):Ro W [Sl.kP W] (bK k v xs):=by
 intro w d;have⟨a,n,c,e,f,g⟩:=h;refine ⟨a,n,c,e,f,λi x hi=>?_⟩;have⟨b,j,l⟩:=g i x hi;exact ⟨b,j,ak8 d l⟩
theorem own:ownKnob prog.godebug=none:=aC
theorem JH:laidOutB prog=true:=aC
end
open Go.aG
theorem ag8 {e:TypeId}{k:IntKind} (he:P.underlying e=some (.int k)) (xs:Array Value) (i:Nat) (v:Value) (hv:xs[i]?=some v) (w:World):(part e xs i).run P w=.ok v w:=by
 unfold part isAgg;simp [aii,akB he,hv]
theorem ag3 (d:Nat){e:TypeId}{k:IntKind} (c:P.underlying e=some (.int k)) (a b:List Int):∀ (is:List Nat),(∀ i∈is,i<a.length/\i<b.length)->∀ w,
  (Op.eqItems (d+1) e 1 (a.map (.int k)).toArray (b.map (.int k)).toArray is).run P w=.ok (is.all λi=>a.getD i 0==b.getD i 0) w
 |[],_,w=>by simp [Op.eqItems]
 |i::is,h,w=>by
  obtain ⟨f,g⟩:=h i (.head _);have l:((a.map (Value.int k)).toArray)[i*1]?=some (.int k (a.getD i 0)):=by
   rw [aiR,ab5,ab4,aaf f,abY,aaf f];rfl
  have m:((b.map (Value.int k)).toArray)[i*1]?=some (.int k (b.getD i 0)):=by
   rw [aiR,ab5,ab4,aaf g,abY,aaf g];rfl
  unfold Op.eqItems;simp only [aii,ag8 c _ _ _ l,ag8 c _ _ _ m,acz,run_equalIn_int w d e k k _ _ c];have n:=ag3 d c a b is (λj o=>h j (.tail _ o)) w;cases hb:(a.getD i 0==b.getD i 0)
  ·simp only [List.all_cons,hb,Bool.not_false,auT,aiV,Bool.false_and]
  ·simp only [List.all_cons,hb,Bool.not_true,ajI,auQ,n,awC]
theorem Zh (ks ls:List Int) (h:ks.length=ls.length):((List.range ks.length).all λi=>ks.getD i 0==ls.getD i 0)=decide (ks=ls):=by
 rw [atd,ajC,ad2];constructor
 ·intro hh;apply List.ext_getElem h;intro i h1 h2;have:=hh i (List.mem_range.2 h1);rw [alj,abY,abY,aaf h1,aaf h2]at this;exact this
 ·rintro rfl i _;simp
theorem asI {t e:TypeId}{n:Nat}{k:IntKind}{i:TypeInfo} (hu:P.underlying t=some (.array n e)) (he:P.underlying e=some (.int k)) (hi:P.info? e=some i) (hc:P.cellsOf e=1) (ks ls:List Int) (h1:ks.length=n) (h2:ls.length=n) (w:World) :
  (binOp .neq t (.agg (ks.map (.int k)).toArray) (.agg (ls.map (.int k)).toArray)).run P w=.ok (.bool (!decide (ks=ls))) w:=by
 refine afv ?_;intro h;rw [run_neq_struct,h,<-h1,Zh ks ls oQ]
 rfl
theorem asC {t e:TypeId}{n:Nat}{k:IntKind}{i:TypeInfo} (hu:P.underlying t=some (.array n e)) (he:P.underlying e=some (.int k)) (hi:P.info? e=some i) (hc:P.cellsOf e=1) (ks ls:List Int) (h1:ks.length=n) (h2:ls.length=n) (w:World) :
  (Op.equalIn 10000 t (.agg (ks.map (.int k)).toArray) (.agg (ls.map (.int k)).toArray)).run P w=.ok (decide (ks=ls)) w:=by
 refine afv ?_;intro h;rw [h,<-h1,Zh ks ls oQ]
theorem asF (w:World) (g off:Nat) (t ty:TypeId) (cs ks:Array Value) (fr:Nat×Nat) (d:TypeDesc) (hg:w.heap[g]?=some (.cells cs t fr)) (hk:∀ j v,ks[j]?=some v->cs[off+j]?=some v)
  (hu:P.underlying ty=some d) (hd:(match d with | .struct _ | .array _ _=>true|_=>false)=true) (hi:(P.info? ty).map (·.size)=some ks.size) :
  (loadVar ty ⟨g,off,none⟩).run P w=.ok (.agg ks) w:=by
 have hl:(loadCells ⟨g,off,none⟩ ks.toList.length).run P w=.ok ks.toList.toArray w:=
  run_loadCells_list (P:=P) w ⟨g,off,none⟩ ks.toList (λj v hv=>by
   have hadd:(⟨g,off,none⟩:Addr).add j=⟨g,off+j,none⟩:=by unfold Addr.add;split <;> simp_all
   rw [hadd,cell_of_row w g _ cs t fr hg];exact hk j v (by simpa using hv))
 cases hq:P.info? ty with
 |none=>simp [hq]at hi
 |some i=>
  have hs:i.size=ks.size:=by simpa [hq] using hi
  have hagg:(isAgg ty).run P w=.ok true w:=by
   unfold isAgg;rw [aii,akB hu w];cases d <;> simp_all
  simp only [ahN,Array.toArray_toList]at hl;simp [loadVar,aii,hagg,sizeOf,typeInfo,hq,hs,hl]
theorem avd {ops:Array Oper}{rest:List Oper}{o:Oper}{a:Act}{w:World}{Q:Exit->Act->World->Prop} (c:o.guard=none) (ty:TypeId) (x:Operand) (e:o.op=.load ty x)
  (g off:Nat) (f:a.eval x=.pointer (some ⟨g,off,none⟩)) (t:TypeId) (cs b:Array Value) (fr:Nat×Nat) (d:TypeDesc) (hg:w.heap[g]?=some (.cells cs t fr)) (i:∀ j v,b[j]?=some v->cs[off+j]?=some v)
  (k:P.underlying ty=some d) (hd:(match d with | .struct _ | .array _ _=>true|_=>false)=true) (hi:(P.info? ty).map (·.size)=some b.size)
  (h:wpList P ops Q rest (a.put o.dst (.agg b)) w):wpList P ops Q (o::rest) a w:=
 ajs c λ_ l=>by
  unfold Oper.wp execOp;simp only [e,f,Instr.loadAt,Instr.sureAddr,aii,aiV,acz,asF w g off t ty cs b fr d hg i k hd hi];exact l _ _ h
def mM (x:ay.aT) (dv:Value):List Value:= .int .i64 x.dB::(aI x.key++[dv])
def dR (x:ay.aT) (dv:Value):Array Value:=(mM x dv).toArray
theorem iw (x:ay.aT) (dv:Value) (hk:x.key.length=32):(dR x dv).size=34:=by unfold dR mM;simp [aI,hk]
theorem Dc (x:ay.aT) (dv:Value):(dR x dv)[0]?=some (.int .i64 x.dB):=rfl
theorem Gw (x:ay.aT) (dv:Value) (hk:x.key.length=32):(dR x dv)[33]?=some dv:=by
 unfold dR mM;rw [ab5,asQ,aiP zP0,bP,hk];rfl
theorem SX (x:ay.aT) (dv:Value) (hk:x.key.length=32):∀ j v,(aI x.key).toArray[j]?=some v->(dR x dv)[1+j]?=some v:=by
 intro j v h;rw [ab5]at h;have hj:=(abM.1 h).1;unfold dR mM;rw [ab5,Nat.add_comm,asQ,aiS hj];exact h
theorem MP (k:Bs):aI k=(k.map λb=>(b.toNat:Int)).map (.int .u8):=by unfold aI;rw [ajr];rfl
theorem acQ {k l:Bs} (h:(k.map λb=>(b.toNat:Int))=l.map λb=>(b.toNat:Int)):k=l:=by
 induction k generalizing l with
 |nil=>cases l with
  |nil=>rfl
  |cons=>simp at h
 |cons a k ih=>cases l with
  |nil=>simp at h
  |cons b l=>
   simp only [aij,List.cons.injEq]at h;rw [ih h.2]
   congr 1
   exact ak4.1 oQ
theorem adR (k l:Bs) (hk:k.length=32) (hl:l.length=32) (w:World):(binOp .neq 34 (.agg (aI k).toArray) (.agg (aI l).toArray)).run prog w=.ok (.bool (!decide (k=l))) w:=by
 obtain ⟨i,hi,_⟩:=Aa;have:=asI underlying34 underlying5 hi aC (k.map λb=>(b.toNat:Int)) (l.map λb=>(b.toNat:Int)) (by simpa using hk) (by simpa using hl) w;rw [MP,MP,this]
 congr 3
 rw [atd,ad2,ad2];exact ⟨λh=>acQ h,λh=>by rw [h]⟩
theorem Np (k l:Bs) (hk:k.length=32) (hl:l.length=32) (w:World):(Op.equalIn 10000 34 (.agg (aI k).toArray) (.agg (aI l).toArray)).run prog w=.ok (decide (k=l)) w:=by
 obtain ⟨i,hi,_⟩:=Aa;have:=asC underlying34 underlying5 hi aC (k.map λb=>(b.toNat:Int)) (l.map λb=>(b.toNat:Int)) (by simpa using hk) (by simpa using hl) w;rw [MP,MP,this]
 congr 2
 rw [eq_iff_iff];exact ⟨λh=>acQ h,λh=>by rw [h]⟩
theorem avz:(aI ay.gu).toArray=#[.int .u8 0,.int .u8 0,.int .u8 0,.int .u8 0,.int .u8 0,.int .u8 0,.int .u8 0,.int .u8 0,.int .u8 0,.int .u8 0,.int .u8 0,.int .u8 0,.int .u8 0,.int .u8 0,.int .u8 0,.int .u8 0,.int .u8 0,.int .u8 0,.int .u8 0,.int .u8 0,.int .u8 0,.int .u8 0,.int .u8 0,.int .u8 0,.int .u8 0,.int .u8 0,.int .u8 0,.int .u8 0,.int .u8 0,.int .u8 0,.int .u8 0,.int .u8 0]:=rfl
theorem amf (k:Bs) (hk:k.length=32) (w:World):(Op.equalIn 10000 34 (.agg (aI k).toArray) (.agg #[.int .u8 0,.int .u8 0,.int .u8 0,.int .u8 0,.int .u8 0,.int .u8 0,.int .u8 0,.int .u8 0,.int .u8 0,.int .u8 0,.int .u8 0,.int .u8 0,.int .u8 0,.int .u8 0,.int .u8 0,.int .u8 0,.int .u8 0,.int .u8 0,.int .u8 0,.int .u8 0,.int .u8 0,.int .u8 0,.int .u8 0,.int .u8 0,.int .u8 0,.int .u8 0,.int .u8 0,.int .u8 0,.int .u8 0,.int .u8 0,.int .u8 0,.int .u8 0])).run prog w=.ok (decide (k=ay.gu)) w:=by
 rw [<-avz];exact Np k _ hk rfl w
theorem ZP (x:ay.aT) (hk:x.key.length=32) (a:Option Addr) (c:Nat) (h:au w0 w F) :
  Calls prog 202 #[.agg (dR x (.slice a x.data.length c))] w (bf λv w'=>v=dS (ay.kK x)/\au w0 w' F):=by
 have j:=h.alloc (.cells (dR x (.slice a x.data.length c)) 71);have o:=j.dD 0 _ (Dc x _);have C:=j.dD 33 _ (Gw x _ hk);have l:=j.at;have r:=amf x.key hk;have m:=SX x (.slice a x.data.length c) hk;have QS:=uQ m;have vk:=uQ l;have n:(aI x.key).toArray.size=32:=by simp [aI,hk]
 have wZ:=uQ n;have d:=uQ j.drop;clear m l n j;generalize z:x.data.length=L at *
 have f:=uQ z;clear z;by_cases e:x.dB=2
 ·rw [e]at o;by_cases g:x.key=ay.gu
  ·have s:decide (x.key=ay.gu)=true:=aiC g;have A:=uQ g;clear g;by_cases t:0<L
   ·have b:=uQ (show ay.kK x=4 by unfold ay.kK;simp [e,A.o,f.o,t]);have u:(0:Int)<(L:Int):=oQ;refine VJ ?_;exact ⟨dS 4,rfl,by rw [b.o],d.o⟩
   ·obtain rfl:L=0:=oQ;have b:=uQ (show ay.kK x=0 by unfold ay.kK;simp [e,A.o,f.o]);refine VJ ?_;exact ⟨dS 0,rfl,by rw [b.o],d.o⟩
  ·have s:decide (x.key=ay.gu)=false:=aes g;have b:=uQ (show ay.kK x=4 by unfold ay.kK;simp [e,g]);clear g;refine VJ ?_;exact ⟨dS 4,rfl,by rw [b.o],d.o⟩
 ·have D:(x.dB==2)=false:=by simpa using e
  clear r;by_cases i:x.dB=0
  ·rw [i]at o;by_cases B:16384<L
   ·have b:=uQ (show ay.kK x=5 by unfold ay.kK;simp [i,f.o,B]);have y:(16384:Int)<(L:Int):=oQ;go_enter func202,ntmps202;go_wp2;go_ret;exact ⟨dS 5,rfl,by rw [b.o],d.o⟩
   ·have b:=uQ (show ay.kK x=0 by unfold ay.kK;simp [i,f.o,B]);have y:¬ (16384:Int)<(L:Int):=oQ;go_enter func202,ntmps202;go_wp2;go_ret;exact ⟨dS 0,rfl,by rw [b.o],d.o⟩
  ·have E:(x.dB==0)=false:=by simpa using i
   by_cases t1:x.dB=1
   ·rw [t1]at o;by_cases t:0<L
    ·have b:=uQ (show ay.kK x=4 by unfold ay.kK;simp [t1,f.o,t]);have u:(0:Int)<(L:Int):=oQ;go_enter func202,ntmps202;go_wp2;go_ret;exact ⟨dS 4,rfl,by rw [b.o],d.o⟩
    ·obtain rfl:L=0:=oQ;have b:=uQ (show ay.kK x=0 by unfold ay.kK;simp [t1,f.o]);go_enter func202,ntmps202;go_wp2;go_ret;exact ⟨dS 0,rfl,by rw [b.o],d.o⟩
   ·have G:(x.dB==1)=false:=by simpa using t1
    have b:=uQ (show ay.kK x=4 by unfold ay.kK;simp [i,t1,e]);clear i t1 e;generalize x.dB=T at *
    go_enter func202,ntmps202;go_wp2;go_ret;exact ⟨dS 4,rfl,by rw [b.o],d.o⟩
section
theorem adH (l c:Nat) (h1:l<=c) (h2:c<=1099511627776) (w:World) :
  (Instr.makeSlice 59 (.int .i64 l) (.int .i64 c)).run prog w=.ok (.slice (some ⟨w.heap.size,0,none⟩) l c) (w.alloc (.cells (madeCells #[.int .u8 0] c) 5)):=by
 obtain ⟨i,hi,a,b,d⟩:=Aa;have:=run_make w 59 5 i _ underlying59 hi a .i64 .i64 l c oQ oQ (by rw [d];omega) oQ;simp only [Int.toNat_natCast,b,aiR]at this;exact this
theorem adF {l c:Nat} (h1:l<=c) (h2:c<=1099511627776) (h:au w0 w (pt q (.cells (madeCells #[.int .u8 0] c) 5 (0,0))::F)):au w0 w (cZ (.slice (some ⟨q,0,none⟩) l c) (List.replicate l 0)::F):=by
 refine au.pV h (by rw [bP,ajM,aiR]) h1 (by rw [size_madeCells,aiR];exact abG _) yT0 ?_;rw [toList_madeCells_one,aiR,List.take_replicate,avG h1];unfold aI;rw [List.map_replicate];rfl
section
variable {o:Oper}{sv:Value}
theorem avc (k:o.guard=none) (d s:Operand)
  (p:o.op=.call { callee:= .builtin .copy,args:=#[d,s],argTypes:=#[59,59] }) (g n c:Nat) (hd:a.eval d=.slice (some ⟨g,0,none⟩) n c) (q:a.eval s=sv)
  {l x:Bs} (h:au w0 w (cZ (.slice (some ⟨g,0,none⟩) n c) l::F)) (T:bK 1 sv (aI x) w) (U:x≠[]) (W:x.length<=l.length)
  (V:∀ w',au w0 w' (cZ (.slice (some ⟨g,0,none⟩) n c) (x++l.drop x.length)::F)->wpList prog ops Q rest (a.put o.dst (goInt x.length)) w'):wpList prog ops Q (o::rest) a w:=by
 obtain ⟨i,hi,E,r,G⟩:=Aa;obtain ⟨H,D,I,rfl,t,e⟩:=T;rw [bP,aiR]at t;obtain ⟨f,rfl⟩:∃ f,H=some f:=by
  cases x with
  |nil=>exact absurd rfl U
  |cons b x=>obtain ⟨f,u,_⟩:=e 0 _ rfl;exact ⟨f,u⟩
 rcases au.nV h with ⟨y,_⟩|⟨P,R,S,m,y,J,K,L,M,z,A⟩
 ·cases y
 ·cases y;rw [bP,aiR]at J;rw [aiR]at L z;have B:(prog.info? 5).map (·.size)=some 1:=by rw [hi];simp [r]
  refine wpList_copy_own k d s _ _ p 5 underlying59 B g 0 n c f D I hd q m 5 A.at (aI x) (by rw [bP];show _=min D n;omega) (λj v C=>by obtain ⟨b,N,O⟩:=e j v C;cases N;exact O) zP0 (Bo _) ?_;rw [bP];refine V _ ?_;have u:=A.jc (w':=w.setRow g (m.toList.take 0++(aI x++m.toList.drop (0+x.length))).toArray) rfl rfl rfl yD0 (setRow_heap w g m _ _ _ A.at) (λj C _=>setRow_other w g j _ C);refine au.pV u ?_ K ?_ M ?_
  ·rw [bP,aay,abJ,aiR];omega
  ·simp only [ajN,ajc,abC,aay,abJ,bP,ahN];omega
  ·simp only [ajN,ajc,aiO,aiR];unfold aI at z ⊢;rw [acy,List.map_drop,<-z,List.take_append,abl,acE yO0,aom]
end
theorem amP (x:ay.aT) (hk:x.key.length=32) (a:Option Addr) (c:Nat) (h:au w0 w F) (hL:x.data.length<=1099511627776) :
  Calls prog 203 #[.agg (dR x (.slice a x.data.length c))] w (bf λv w'=>v=.int .i64 (ay.size x:Nat)/\au w0 w' F):=by
 have m:=h.alloc (.cells (dR x (.slice a x.data.length c)) 71);have f:=ZP x hk a c m;have g:=m.at;have i:=iw x (.slice a x.data.length c) hk;have s:=uQ hL
 go_in
 go_wp2_with (refine wpList_load_row aA 71 _ aA _ aA _ _ (0,0) _ g underlying71 aA (by rw [i];kernel_rfl) ?_);refine f.mono ?_;rintro e B ⟨v,rfl,rfl,b⟩;have t:=b.dD 0 _ (Dc x _);have u:=b.dD 33 _ (Gw x _ hk);by_cases d:ay.kK x=0
 ·by_cases j:x.dB=2
  ·have l:=uQ (show ay.size x=9 by unfold ay.size;simp [d,j]);rw [d];rw [j]at t;go_wp2;go_ret;exact ⟨.int .i64 9,rfl,by rw [l.o];rfl,b.drop⟩
  ·have l:=uQ (show ay.size x=41+x.data.length by unfold ay.size;simp [d,j]);have y:(x.dB==2)=false:=by simpa using j
   have z:IntKind.i64.wrap (41+x.data.length)=41+x.data.length:=abR _ (by omega);rw [d];generalize x.dB=T at *
   go_wp2;go_ret;exact ⟨.int .i64 (41+(x.data.length:Int)),rfl,by rw [l.o];rfl,b.drop⟩
 ·have l:=uQ (show ay.size x=0 by unfold ay.size;simp [d]);have A:(ay.kK x==0)=false:=by simpa using d
  clear d;generalize ay.kK x=E at *
  go_wp2;go_ret;exact ⟨.int .i64 0,rfl,by rw [l.o];rfl,b.drop⟩
end
end Go.Proofs.Y
namespace Go
open Go
theorem Ij(h:C:=by
 have hx:(aI l)[8]?=some (.int .u8 (l.getD 8 0).toNat):=by
  unfold aI;rw [ab4,abY,aaf oQ];rfl
 obtain ⟨MO,off',hb,hc⟩:=pq (hr w hw) hx;cases hb;exact hc _ _ hx):C:=h
theorem Ih(h:C:=by
 have hx:(aI l)[0]?=some (.int .u8 (l[0]'oQ).toNat):=by
  unfold aI;rw [ab4,aaf oQ];rfl
 obtain ⟨bk,off,hb,_⟩:=pq (hr w h) hx;exact ⟨bk,off,hb,trivial⟩):C:=h
theorem Vo(h:C:=by
 refine ⟨rfl,_,vT rfl aQ aA dh rfl,_,rfl,none,0,rfl,au.iW.2 (au.sb hS)⟩):C:=h
theorem Dv(h:C:=by
 obtain ⟨_,_,_,he,hl',_⟩:=hr w h;cases he;rw [bP,aiR]at hl';exact hl'.symm):C:=h
theorem af2(h:C:=by
 go_wp2_with fail;refine TU.mono ?_;rintro ee w9 ⟨v,rfl,oh,pb,rfl⟩;clear TU hwc acB;have hr9:bK 1 (.slice pb 4 4) (aI (ay.le (ay.lq (ay.body e)) 4)) w9:=au.rd oh;go_wp2_with (refine avc (w0:=w0) (x:=ay.le (ay.lq (ay.body e)) 4) aA _ _ aA b7 n7 k7 aA aA oh.bZ hr9 (by intro e0;have:=ay.nK (ay.lq (ay.body e)) 4;rw [e0]at this;cases this) (by rw [ay.nK,aay,ajM];omega) ?_;intro w10 jX)
 go_ret2
 have hfin:ay.dI e=(ay.le (ay.lq (ay.body e)) 4++ay.body e,0):=by unfold ay.dI;rw [abB (by rw [Hc.o];simp)]
 rw [hfin];refine ⟨_,rfl,_,rfl,⟨_,_,_,rfl⟩,?_⟩;have hdr:(List.replicate 4 (0:UInt8)++ay.body e).drop (ay.le (ay.lq (ay.body e)) 4).length=ay.body e:=by
  rw [ay.nK,auU yD0];simp
 rw [hdr]at jX;exact hXX _ _ (jX.gZ 2 [0] rfl rfl)):C:=h
theorem VE(h:C:=by
 cases he;rw [bP,aiR]at hl';exact hl'.symm):C:=h
theorem VK(h:C:=by
 congr 1
 have hp:(256:Nat)^l.length=2^(8*l.length):=by rw [Nat.pow_mul]
 rw [hp]at h1 ⊢;have:=Nat.two_pow_add_eq_or_of_lt h1 c.toNat;rw [Nat.or_comm,alQ c.toNat,<-this,Nat.add_comm]):C:=h
theorem aeI(k:E)(h:RowKit.Hid E->C:=by
 intro fM;have hne:xs++cs.toList≠[]:=by
  intro h;have:=aiX List.length h;simp only [aay,ahN,ajw]at this;have:0<n*sz:=Nat.mul_pos h0 e4;omega
 have hrd:bK sz (.slice (some ⟨b,0,none⟩) n c) cs.toList w:=⟨_,n,c,rfl,by simpa using hn,λj x hj=>⟨_,rfl,by
  rw [xw];exact ((hs.pick p).pick (bW p2)).dD j x yY0⟩⟩
 revert hne hrd;exact fM.o):C:=h (uQ k)
theorem Vh(k:E)(h:RowKit.Hid E->C:=by
 intro fM;obtain ⟨i,hi,hz0,hz1,hz2⟩:=Aa;have h63:(aI l).length+(aI m).length<=maxLen:=by rw [bP,bP];unfold maxLen;omega
 have hby:((aI l).length+(aI m).length)*i.bytes<=140737488355328:=by rw [bP,bP,hz2];omega
 revert i hi hz0 hz1 hz2 h63 hby;exact fM.o):C:=h (uQ k)
theorem aeT(k:E)(h:RowKit.Hid E->C:=by
 intro fM;have hS:=hs.alloc (.cells v.cells ty);unfold Oper.wp execOp;have hrun:(Instr.alloc ty true (.tuple #[])).run P w=.ok (.pointer (some ⟨w.heap.size,0,none⟩)) (w.alloc (.cells v.cells ty)):=by
  simp [Instr.alloc,Wx hz w,newVar,newRow,go_sem,Result.andThen]
 simp only [aii,aiV,hrun,acz];revert hS hrun;exact fM.o):C:=h (uQ k)
theorem O8(h:C:=by
 go_enter func185,ntmps185;go_wp2;go_ret;rw [Hf.o];exact ⟨_,rfl,rfl,rfl⟩):C:=h
theorem ae1(k:E)(h:RowKit.Hid E->C:=by
 intro fM;have hS:=hs.alloc (.cells v.cells ty);unfold Oper.wp execOp;have hrun:(Instr.box ty v).run P w=.ok (.pointer (some ⟨w.heap.size,0,none⟩)) (w.alloc (.cells v.cells ty)):=by
  simp [Instr.box,newVar,newRow,go_sem]
 simp only [hy,aii,aiV,hrun,acz];revert hS hrun;exact fM.o):C:=h (uQ k)
theorem afi(h:C:=by
 unfold Oper.wp execOp;simp only [hx,Instr.loadAt,Instr.sureAddr,aii,aiV,acz,asE h1 (hs.bI p o (abt hlt hv))];exact hK _ _ h):C:=h
theorem afk(k:E)(h:RowKit.Hid E->C:=by
 intro fM;simp only [ajN,ajc,ai8,aiO];rw [List.singleton_append,List.take_succ_cons,ajN,hk,show 1+32=32+1 by omega,List.drop_succ_cons,apl];exact fM.o):C:=h (uQ k)
theorem afn(h:C:=by
 unfold dR mM;rw [agQ,List.all_cons,ana];have:(aI e.key).all (·.oneCell')=true:=ajC.2 (Bo _);rw [this];rfl):C:=h
theorem afx(k:E)(h:RowKit.Hid E->C:=by
 intro fM;rw [List.reverse_cons]at h ⊢;rw [ana,ajg]at h;have hc:um c=true:=by simpa using h.2
 unfold um at hc;rw [ajg,ad2,ad2]at hc;revert h hc;exact fM.o):C:=h (uQ k)
theorem afz(h:C:=by
 unfold Oper.wp execOp;simp only [hx,hy,hz,am8,avX,aii,hr,acz,aiV];exact hK _ _ h):C:=h
theorem Vx(k:E)(h:RowKit.Hid E->C:=by
 intro fM;have e:(c.toNat:Int)*((256^l.length:Nat):Int)=((c.toNat*256^l.length:Nat):Int):=by rw [Int.natCast_mul]
 revert e;exact fM.o):C:=h (uQ k)
theorem afD(h:C:=by
 have hs:v.cells.size=i.size:=by simp [hq]at hi;omega
 simp only [aoe]at hst;simp [storeVar,sizeOf,typeInfo,hq,hs,hst]):C:=h
theorem afG(h:C:=by
 intro j hj;refine ⟨?_,h.uJ _⟩;rw [h.dD (o+j) _ (ao1 (show o+j<cs.size by omega))]
 rfl):C:=h
theorem afN(h:C:=by
 rw [Nat.add_comm,asQ,aiS (abM.1 h).1];exact h):C:=h
theorem afQ(h:C:=by
 intro v' w' hS hv';obtain ⟨b',n',c',rfl⟩:=hv' hne;exact hK b' n' c' w' (hS.pick (bW p2)).drop):C:=h
theorem afT(h:C:=by
 have:=aiX List.length iT.o;rw [aay,aB.zU,aB.zU]at this;omega):C:=h
theorem afU(h:C:=by
 go_enter func185,ntmps185;go_wp2;go_ret;rw [Hf.o,<-He.o];exact ⟨_,rfl,rfl,rfl⟩):C:=h
end Go
namespace Go.aB
abbrev Bs:=List UInt8
def lu (n:Nat):Nat->Bs
 |0=>[]
 |k+1=>lu (n/10) k++[UInt8.ofNat (48+n%10)]
def jW:Bs:=[115,101,103,46]
def name (n:Int):ByteArray:=if n<0\/1048576<=n then ByteArray.empty else ⟨(jW++lu n.toNat 8).toArray⟩
theorem aau:∀ k,lu 0 k=List.replicate k 48
 |0=>rfl
 |k+1=>by
  show lu (0/10) k++[UInt8.ofNat (48+0%10)]=_;rw [Nat.zero_div,aau k,List.replicate_succ',show UInt8.ofNat (48+0%10)=48 from rfl]
theorem zU (n k:Nat):(lu n k).length=k:=by
 induction k generalizing n with
 |zero=>rfl
 |succ k ih=>simp [lu,ih]
def um (c:UInt8):Bool:=decide (48<=c.toNat) && decide (c.toNat<=57)
def val (b:Bs):Nat:=b.foldl (λn c=>10*n+(c.toNat-48)) 0
theorem Qn (b:Bs) (c:UInt8):val (b++[c])=10*val b+(c.toNat-48):=by unfold val;rw [asl];rfl
theorem auN (k:Nat):∀ n,n<10^k->val (lu n k)=n:=by
 induction k with
 |zero=>intro n h;simp at h;subst h;rfl
 |succ k ih=>
  intro n h;show val (lu (n/10) k++[UInt8.ofNat (48+n%10)])=n;rw [Qn,ih (n/10) (by rw [Nat.div_lt_iff_lt_mul oQ];rw [awx]at h;exact h),ao4];omega
theorem SC (k:Nat):∀ n,(lu n k).all um=true:=by
 induction k with
 |zero=>intro n;rfl
 |succ k ih=>
  intro n;show (lu (n/10) k++[UInt8.ofNat (48+n%10)]).all um=true;rw [ana,ih,awC];simp only [List.all_cons,List.all_nil,Bool.and_true,um,ao4];rw [ajg,ad2,ad2];omega
theorem alP (b:Bs) (h:b.all um=true):lu (val b) b.length=b:=by
 rw [<-List.reverse_reverse b]at *
 generalize b.reverse=r at *
 induction r with
 |nil=>rfl
 |cons c r a=>
  refine afx ?_;intro h hc;rw [Qn,aay,ai8];show lu ((10*val r.reverse+(c.toNat-48))/10) r.reverse.length++[UInt8.ofNat (48+(10*val r.reverse+(c.toNat-48))%10)]=_;have d:(10*val r.reverse+(c.toNat-48))/10=val r.reverse:=oQ;have e:48+(10*val r.reverse+(c.toNat-48))%10=c.toNat:=oQ;rw [d,e,a h.1,UInt8.ofNat_toNat]
theorem auO (b:Bs) (h:b.all um=true):val b<10^b.length:=by
 rw [<-List.reverse_reverse b]at *
 generalize b.reverse=r at *
 induction r with
 |nil=>simp [val]
 |cons c r ih=>
  refine afx ?_;intro h hc;rw [Qn,aay,ai8,awx];have:=ih h.1;omega
def iD (s:ByteArray):Int×Bool:=
 let l:=s.data.toList
 if l.length=12/\l.take 4=jW/\(l.drop 4).all um=true/\val (l.drop 4)<1048576 then (val (l.drop 4),true) else (0,false)
open Go.aG
structure aS where
 limit:Int
 l:List (Int×Int)
 on:Bool
 dK:Int
def alive (M:aG):Int:=if (M.size ByteArray.empty).2=9 then 0 else (M.size ByteArray.empty).2
def qF (M:aG) (l:List ByteArray):List (Int×Int):=l.filterMap λs=>if (iD s).2=true then some ((iD s).1,(M.size s).1) else none
def dK (M:aG) (limit:Int):aS:=⟨limit,qF M M.list,false,0⟩
theorem amK (M:aG) (l:List ByteArray) (s:ByteArray):qF M (l++[s])=qF M l++(if (iD s).2=true then [((iD s).1,(M.size s).1)] else []):=by
 unfold qF;rw [List.filterMap_append]
 congr 1
 by_cases h:(iD s).2=true <;> simp [h]
theorem amJ (M:aG) (l:List ByteArray):(qF M l).length<=l.length:=List.length_filterMap_le _ _
def aS.next (L:aS):Int:=match L.l.getLast? with
 |none=>0
 |some s=>s.1+1
end Go.aB
namespace Go.ay
theorem UW (l:Bs) (c:UInt8):bD (l++[c])=bD l+c.toNat*256^l.length:=by
 induction l with
 |nil=>show c.toNat+256*0=0+c.toNat*1;omega
 |cons d l ih=>
  show d.toNat+256*bD (l++[c])=d.toNat+256*bD l+c.toNat*256^(l.length+1);rw [ih,awx,Nat.mul_add,<-Nat.mul_assoc,alQ 256 (c.toNat),Nat.mul_assoc,alQ 256 (256^l.length),<-avC]
structure fO where
 e:aT
 aP:Nat
 size:Nat
def pY:Nat->Bs->Nat->List fO×Nat×Int
 |0,_,aP=>([],aP,0)
 |k+1,b,aP=>
  if b=[] then ([],aP,0)
  else if (read b).2.2≠0 then ([],aP,(read b).2.2)
  else (⟨(read b).1,aP,(read b).2.1⟩::(pY k (b.drop (read b).2.1) (aP+(read b).2.1)).1,(pY k (b.drop (read b).2.1) (aP+(read b).2.1)).2)
def yQ:Bs:=[72,79,65,82,68,83,69,71]
def eF (b:Bs):List fO×Nat×Int:=if b.take 8=yQ then pY b.length (b.drop 8) 8 else ([],0,4)
def aag (long:Nat) (x:aT):aT:=⟨x.dB,x.key,x.data.take long⟩
def rE (l:List aT) (n long:Nat):List aT:=(l.take n).map (aag long)
theorem BK {b:Bs} (h:(read b).2.2=0):9<=(read b).2.1/\(read b).2.1<=b.length/\(read b).1.key.length=32:=by
 unfold read at *
 dsimp only at *
 split at h
 ·simp at h
 rename_i e;rw [abB e];split at h
 ·simp at h
 rename_i hf;rw [abB hf];split at h
 ·simp at h
 rename_i d;rw [abB d];split at h
 ·simp at h
 rename_i f;rw [abB f];have a:fC (b.getD 8 0) (bD ((b.drop 4).take 4))=true:=by
  cases hh:fC (b.getD 8 0) (bD ((b.drop 4).take 4)) with
  |true=>rfl
  |false=>exact absurd hh hf
 have c:9<=bD ((b.drop 4).take 4):=by
  unfold fC at a;split at a
  ·have:=ak5 a;omega
  ·split at a
   ·have:=ak5 a;omega
   ·split at a
    ·have:=ak5 a;omega
    ·cases a
 split
 ·rename_i g;refine ⟨c,Nat.not_lt.1 d,?_⟩;simp only [abA,abJ];omega
 ·exact ⟨c,Nat.not_lt.1 d,rfl⟩
theorem Ik (b:Bs):(read b).1.key.length=32:=by
 unfold read;dsimp only;split
 ·rfl
 split
 ·rfl
 split
 ·rfl
 split
 ·rfl
 rename_i h9 hf hl hc;split
 ·rename_i xC;simp only [abA,abJ];omega
 ·rfl
end Go.ay
namespace Go
theorem Nz {α : Type _} {l : List α} {i : Nat} (h : i < l.length) : ∃ x, l[i]? = some x := ⟨_, aaf h⟩
end Go
namespace Go.Proofs.Y
open Go.aG
section
section
variable {o:Oper}
theorem FT (B:o.guard=none) (s y:Operand) (G:o.op=.call { callee:= .builtin .append,args:=#[s,y],argTypes:=#[59,59] })
  (H:a.eval s=v) (C:a.eval y=x) {l m:Bs} (h:au w0 w (cZ v l::F)) (I:bK 1 x (aI m) w) (E:l.length+m.length<=1099511627776) (D:l++m≠[])
  (J:∀ b n c w',au w0 w' (cZ (.slice (some ⟨b,0,none⟩) n c) (l++m)::F)->n=(l++m).length->n<=c->c<=9223372036854775807->wpList prog ops Q rest (a.put o.dst (.slice (some ⟨b,0,none⟩) n c)) w'):wpList prog ops Q (o::rest) a w:=by
 refine Vh ?_;intro i hi hz0 hz1 hz2 h63 hby;refine AA B s y 59 G _ i _ underlying59 hi hz0 hz1 aA oQ H C (Bo _) h I h63 hby ?_;intro t w' d hn;obtain ⟨b,n,c,rfl⟩:=hn (by rw [<-Et];intro e;apply D;simpa [aI] using e);rw [<-Et]at d;obtain ⟨u,z,A,f,g,j,r⟩:=Bh d;cases f;exact J b n c w' d r g j
end
theorem apW (t:Int) (h:t=0\/t=1\/t=2):IntKind.u8.wrap t=((UInt8.ofNat t.toNat).toNat:Int):=by
 rcases h with rfl|rfl|rfl <;> decide
theorem aoq (e:ay.aT) (hk:e.key.length=32) (dv:Value) (h:au w0 w (pt q (.cells (dR e dv) 71 (0,0))::F)):bK 1 (.slice (some ⟨q,1,none⟩) 32 32) (aI e.key) w:=by
 refine ⟨_,32,32,rfl,by rw [bP,hk],λi y hi=>⟨_,rfl,?_⟩⟩;have e1:(⟨q,1,none⟩:Addr).add i=⟨q,1+i,none⟩:=by unfold Addr.add;split <;> simp_all
 rw [e1];exact h.dD _ _ (SX e dv hk i y (by simpa using hi))
theorem SK (e:ay.aT) (hk:e.key.length=32) (da:Option Addr) (dc:Nat) (hd:Ro w0 F (bK 1 (.slice da e.data.length dc) (aI e.data))) (hH:Ro w0 F iO) (h:au w0 w F) (hL:e.data.length<=1099511627) :
  Calls prog 158 #[.agg (dR e (.slice da e.data.length dc))] w (bf λv w'=>∃ bv,v=.tuple #[bv,dS (ay.dI e).2]/\(∃ a n c,bv=.slice a n c)/\au w0 w' (cZ bv (ay.dI e).1::F)):=by
 have hA:=h.alloc (.cells (dR e (.slice da e.data.length dc)) 71);have hch:=ZP e hk da dc hA;have hat:=hA.at;have hsz:=iw e (.slice da e.data.length dc) hk;have vk:=uQ hat;have sV:=uQ hsz;have U:=uQ hk;have V:=uQ hL;have Hd:=uQ hd;have HH:=uQ hH;clear hat hsz hk hA hL hd hH;go_enter func158,ntmps158;go_wp2_with (refine wpList_load_row (P:=prog) aA 71 _ aA _ aA _ _ (0,0) _ vk.o underlying71 aA (by rw [sV.o];kernel_rfl) ?_);refine hch.mono ?_;rintro ee w1 ⟨v,rfl,rfl,hS1⟩;clear hch;generalize w.heap.size=q at *
 by_cases Y:ay.kK e=0
 ·have abS:=uQ hS1.at;have hsc:=amP e U.o da dc hS1 (by have:=V.o;omega);have Hc:=uQ Y;have htag:e.dB=0\/e.dB=1\/e.dB=2:=by
   unfold ay.kK at Y;by_cases t0:e.dB=0
   ·exact .inl t0
   by_cases t2:e.dB=2
   ·exact .inr (.inr t2)
   by_cases t1:e.dB=1
   ·exact .inr (.inl t1)
   simp [t0,t1,t2]at Y
  have ajD:=uQ htag;rw [Y];clear Y htag;go_wp2_with (refine wpList_load_row (P:=prog) aA 71 _ aA _ aA _ _ (0,0) _ abS.o underlying71 aA (by rw [sV.o];kernel_rfl) ?_);refine hsc.mono ?_;rintro ee w2 ⟨v,rfl,rfl,hS2⟩;clear hsc abS vk;have hn9:9<=ay.size e/\ay.size e<=41+e.data.length:=by
   unfold ay.size;rw [abB (by rw [Hc.o];simp)];split <;> omega
  have hN:=uQ hn9;have hmk:=adH 4 (ay.size e) oQ (by have:=V.o;omega);have H:((4:Nat):Int)=4:=rfl;rw [H]at hmk;have hA2:=(hS2.alloc (.cells (madeCells #[.int .u8 0] (ay.size e)) 5));have hB:=adF (l:=4) oQ (by have:=V.o;omega) hA2;have hput:=Ie (ay.size e) (by have:=V.o;omega) hB;have hwu:IntKind.u64.wrap (ay.size e:Int)=(ay.size e:Int):=by
   rw [show ∀ n:Int,IntKind.u64.wrap n=n%18446744073709551616 from λn=>by simp [IntKind.wrap,IntKind.bits,IntKind.signed]];have:=V.o;omega
  clear H hn9 hA2;go_wp2_with fail;refine hput.mono ?_;rintro ee w3 ⟨v,rfl,z,pa,rfl⟩;clear hput hwu hB hmk;generalize w2.heap.size=q2 at *
  have B:=(z.gZ 3 [2] rfl rfl).dD 0 _ (Dc e _);have W:bK 1 (.slice pa 4 4) (aI (ay.le (ay.size e) 4)) w3:=au.rd z;have hl4:=ay.nK (ay.size e) 4;obtain ⟨C,htb⟩:∃ C,C=UInt8.ofNat e.dB.toNat:=⟨_,rfl⟩;have NR:e.dB%256=(C.toNat:Int):=by
   rw [htb,<-apW _ ajD.o];exact (IntKind.wrap_u8' _).symm
  have Rj:=uQ htb;clear htb;have hd3:=Hd.o;have I:=uQ (show (List.replicate 4 (0:UInt8)++ay.le (ay.size e) 4).length=8 by rw [aay,hl4,ajM]);have YI:=uQ hl4;clear hl4;by_cases D:e.dB=2
  ·have J:=uQ D;rw [D]at B;have acA:C=2:=by rw [Rj.o,D];rfl
   have ajE:=uQ acA;clear NR acA
   go_wp2_with (first
    |(at_builtin;refine FT (w0:=w0) (l:=List.replicate 4 0) (m:=ay.le (ay.size e) 4) aA _ _ aA aA aA (z.gZ 3 [1,2] rfl rfl) W (by rw [YI.o,ajM];omega) yD0 ?_;intro b4 n4 k4 w4 t g i j;clear g i j W B z;have B:=t.bZ.dD 0 _ (Dc e _);rw [J.o]at B;have K:=t.alloc (.cells #[.int .u8 2] 5);have M:bK 1 (.slice (some ⟨w4.heap.size,0,none⟩) 1 1) (aI [2]) (w4.alloc (.cells #[.int .u8 2] 5)):=Dx w4 #[.int .u8 2] 5 1 1 1 rfl)
    |(at_builtin;refine FT (w0:=w0) (l:=List.replicate 4 0++ay.le (ay.size e) 4) (m:=[2]) aA _ _ aA aA aA K.bZ M (by rw [I.o];simp) yD0 ?_;intro b5 n5 k5 w5 d g i j;clear g i j M K t B;have B:=d.jS.dD 0 _ (Dc e _);rw [J.o]at B;have N:=d.jS.dD 33 _ (Gw e _ U.o);have O:=Hd.o w5 (d.gZ 3 [] rfl rfl))
    |(at_builtin;refine FT (w0:=w0) (l:=List.replicate 4 0++ay.le (ay.size e) 4++[2]) (m:=e.data) aA _ _ aA aA aA d O (by rw [aay,I.o];have:=V.o;simp;omega) yD0 ?_;intro b7 n7 k7 w7 b o f hk7;have hn4:4<=n7:=(by rw [o];simp only [aay,ajM];omega);have hk4:¬ k7=4:=(by rw [o]at f;simp only [aay,ajM,aiT]at f;omega);have anC:(4:Int)<=(n7:Int):=oQ;have Q:=uQ o;clear o O d N B))
   have u:List.replicate 4 0++ay.le (ay.size e) 4++[2]++e.data=List.replicate 4 0++ay.body e:=by
    unfold ay.body;rw [abL J.o,<-Rj.o,ajE.o];simp only [ab6,ajc]
   obtain ⟨G,hXX,QC,r⟩:∃ G:List aO,(∀ w' A,au w0 w' (A::G)->au w0 w' (A::F))/\Ro w0 (cZ (.slice (some ⟨b7,0,none⟩) n7 k7) (List.replicate 4 0++ay.body e)::G) iO/\au w0 w7 (cZ (.slice (some ⟨b7,0,none⟩) n7 k7) (List.replicate 4 0++ay.le (ay.size e) 4++[2]++e.data)::G):=
    ⟨_::_::F,λw' A hw=>hw.gZ 3 [0] rfl rfl,Ro.tC (L:=[_,_,_]) HH.o,b⟩
   clear b;have b:=r;clear r;rw [u]at b Q;have y:(ay.body e).length<=1099511627776:=by
    have h1:=V.o;have h2:=U.o;unfold ay.body;simp only [aay,ay.nK,aiT,ajw];split <;> simp <;> omega
   have R:n7=4+(ay.body e).length:=by rw [Q.o,aay,ajM]
   have S:∀ w',au w0 w' (cZ (.slice (some ⟨b7,0,none⟩) n7 k7) (List.replicate 4 0++ay.body e)::G)->bK 1 (.slice (some ⟨b7,4,none⟩) (n7-4) (k7-4)) (aI (ay.body e)) w':=by
    intro w' hw';have h1:=VP (lo:=4) (k:=n7-4) (au.rd hw') oQ (some ⟨b7,4,none⟩) (by rw [abB hk4];simp [xw]) f (k7-4);have h2:((aI (List.replicate 4 0++ay.body e)).drop 4).take (n7-4)=aI (ay.body e):=by
     rw [Et,auU (by simp [aI])];have:(aI (List.replicate 4 0)).drop 4=[]:=by simp [aI]
     rw [this,ajc,acE zP0]
    rw [h2]at h1;exact h1
   have s:=SA (F:=cZ (.slice (some ⟨b7,0,none⟩) n7 k7) (List.replicate 4 0++ay.body e)::G) (ay.body e) QC S b y;have vw:=uQ y;clear S y R;go_wp2_with fail;refine s.mono ?_;rintro ee w8 ⟨v,rfl,rfl,rfl⟩;clear s;have T:=ay.Gq (ay.body e);have TU:=Ie (ay.lq (ay.body e)) oQ b;have hwc:IntKind.u64.wrap (ay.lq (ay.body e):Int)=(ay.lq (ay.body e):Int):=by
    rw [show ∀ n:Int,IntKind.u64.wrap n=n%18446744073709551616 from λn=>by simp [IntKind.wrap,IntKind.bits,IntKind.signed]];omega
   have acB:(ay.lq (ay.body e):Int)%18446744073709551616=(ay.lq (ay.body e):Int):=oQ;clear T;exact af2
  ·have ht2b:(e.dB==2)=false:=by simpa using D
   have J:=uQ D;clear D
   go_wp2_with (first
    |(at_builtin;refine FT (w0:=w0) (l:=List.replicate 4 0) (m:=ay.le (ay.size e) 4) aA _ _ aA aA aA (z.gZ 3 [1,2] rfl rfl) W (by rw [YI.o,ajM];omega) yD0 ?_;intro b4 n4 k4 w4 t g i j;clear g i j W B z;have B:=t.bZ.dD 0 _ (Dc e _);have K:=t.alloc (.cells #[.int .u8 C.toNat] 5);have M:bK 1 (.slice (some ⟨w4.heap.size,0,none⟩) 1 1) (aI [C]) (w4.alloc (.cells #[.int .u8 C.toNat] 5)):=Dx w4 #[.int .u8 C.toNat] 5 1 1 1 rfl)
    |(at_builtin;refine FT (w0:=w0) (l:=List.replicate 4 0++ay.le (ay.size e) 4) (m:=[C]) aA _ _ aA aA aA K.bZ M (by rw [I.o];simp) yD0 ?_;intro b5 n5 k5 w5 d g i j;clear g i j M K t B;have B:=d.jS.dD 0 _ (Dc e _);have N:=d.jS.dD 33 _ (Gw e _ U.o);have hr5:=aoq e U.o _ d.jS)
    |(at_builtin;refine FT (w0:=w0) (l:=List.replicate 4 0++ay.le (ay.size e) 4++[C]) (m:=e.key) aA _ _ aA aA aA d hr5 (by rw [aay,I.o,U.o];simp) yD0 ?_;intro b6 n6 k6 w6 X g i j;clear g i j hr5 d B N;have N:=X.jS.dD 33 _ (Gw e _ U.o);have O:=Hd.o w6 (X.gZ 3 [] rfl rfl))
    |(at_builtin;refine FT (w0:=w0) (l:=List.replicate 4 0++ay.le (ay.size e) 4++[C]++e.key) (m:=e.data) aA _ _ aA aA aA X O (by rw [aay,aay,I.o,U.o];have:=V.o;simp;omega) yD0 ?_;intro b7 n7 k7 w7 b o f hk7;have hn4:4<=n7:=(by rw [o];simp only [aay,ajM];omega);have hk4:¬ k7=4:=(by rw [o]at f;simp only [aay,ajM,aiT]at f;omega);have anC:(4:Int)<=(n7:Int):=oQ;have Q:=uQ o;clear o O X N))
   have u:List.replicate 4 0++ay.le (ay.size e) 4++[C]++e.key++e.data=List.replicate 4 0++ay.body e:=by
    unfold ay.body;rw [abB J.o,Rj.o];simp only [ab6]
   obtain ⟨G,hXX,QC,r⟩:∃ G:List aO,(∀ w' A,au w0 w' (A::G)->au w0 w' (A::F))/\Ro w0 (cZ (.slice (some ⟨b7,0,none⟩) n7 k7) (List.replicate 4 0++ay.body e)::G) iO/\au w0 w7 (cZ (.slice (some ⟨b7,0,none⟩) n7 k7) (List.replicate 4 0++ay.le (ay.size e) 4++[C]++e.key++e.data)::G):=
    ⟨_::_::F,λw' A hw=>hw.gZ 3 [0] rfl rfl,Ro.tC (L:=[_,_,_]) HH.o,b⟩
   clear b;have b:=r;clear r;rw [u]at b Q;have y:(ay.body e).length<=1099511627776:=by
    have h1:=V.o;have h2:=U.o;unfold ay.body;simp only [aay,ay.nK,aiT,ajw];split <;> simp <;> omega
   have R:n7=4+(ay.body e).length:=by rw [Q.o,aay,ajM]
   have S:∀ w',au w0 w' (cZ (.slice (some ⟨b7,0,none⟩) n7 k7) (List.replicate 4 0++ay.body e)::G)->bK 1 (.slice (some ⟨b7,4,none⟩) (n7-4) (k7-4)) (aI (ay.body e)) w':=by
    intro w' hw';have h1:=VP (lo:=4) (k:=n7-4) (au.rd hw') oQ (some ⟨b7,4,none⟩) (by rw [abB hk4];simp [xw]) f (k7-4);have h2:((aI (List.replicate 4 0++ay.body e)).drop 4).take (n7-4)=aI (ay.body e):=by
     rw [Et,auU (by simp [aI])];have:(aI (List.replicate 4 0)).drop 4=[]:=by simp [aI]
     rw [this,ajc,acE zP0]
    rw [h2]at h1;exact h1
   have s:=SA (F:=cZ (.slice (some ⟨b7,0,none⟩) n7 k7) (List.replicate 4 0++ay.body e)::G) (ay.body e) QC S b y;have vw:=uQ y;clear S y R;go_wp2_with fail;refine s.mono ?_;rintro ee w8 ⟨v,rfl,rfl,rfl⟩;clear s;have T:=ay.Gq (ay.body e);have TU:=Ie (ay.lq (ay.body e)) oQ b;have hwc:IntKind.u64.wrap (ay.lq (ay.body e):Int)=(ay.lq (ay.body e):Int):=by
    rw [show ∀ n:Int,IntKind.u64.wrap n=n%18446744073709551616 from λn=>by simp [IntKind.wrap,IntKind.bits,IntKind.signed]];omega
   have acB:(ay.lq (ay.body e):Int)%18446744073709551616=(ay.lq (ay.body e):Int):=oQ;clear T;exact af2
 ·have Hf:=uQ (show ay.dI e=([],ay.kK e) by unfold ay.dI;rw [abL Y]);have hcb:(ay.kK e==0)=false:=by simpa using Y
  clear Y;generalize ay.kK e=E at *
  go_wp2
  go_ret2
  rw [Hf.o];exact ⟨_,rfl,.slice none 0 0,rfl,⟨_,_,_,rfl⟩,au.iW.2 hS1.drop⟩
end
def Ac (q:Nat) (l:Bs):aO:=pt q (.cells (aI l).toArray 5 (l.length,l.length+1))
theorem JQ {l:Bs} (h:au w0 w (Ac q l::F)){i:Nat} (hi:i<l.length) (x:UInt8) :
  w.cell? ⟨q,i,none⟩=some (.int .u8 (l[i]'hi).toNat)/\w.frozen? ⟨q,i,none⟩=false/\au w0 (w.setCell ⟨q,i,none⟩ (.int .u8 x.toNat)) (Ac q (l.set i x)::F):=by
 have hb:=h.at;refine ⟨?_,?_,?_⟩
 ·simp only [World.cell?,hb];rw [ab5];unfold aI;rw [ab4,aaf hi];rfl
 ·simp only [World.frozen?,hb];simp;omega
 ·refine h.jc rfl rfl rfl yD0 ?_ ?_
  ·simp only [World.setCell,avx,auT,hb];simp only [am8,Option.some.injEq];rw [akW]
   congr 1
   unfold aI;rw [List.setIfInBounds_toArray,List.map_set,abB yD0]
  ·exact Vu
theorem apk {l:Bs} (h:au w0 w (Ac q l::F)) (c:Nat):(convert 59 9 (.slice (some ⟨q,0,none⟩) l.length c)).run prog w=.ok (.string ⟨l.toArray⟩) w:=by
 refine run_convert_bytes_back w _ _ 5 _ c l underlying59 underlying5 underlying9 (λj hj=>?_);rw [xw];exact (JQ h hj 0).1
theorem Au (n:Int) (h:au w0 w F) :
  Calls prog 71 #[.int .i64 n] w (bf λv w'=>v=.string (aB.name n)/\au w0 w' F):=by
 by_cases h1:n<0
 ·have Hf:=uQ (show aB.name n=ByteArray.empty by unfold aB.name;rw [abL (.inl h1)]);go_enter func71,ntmps71;go_wp2;go_ret;exact ⟨_,rfl,by rw [Hf.o];rfl,h⟩
 have h1d:decide (n<0)=false:=aes h1;by_cases h2:1048576<=n
 ·have Hf:=uQ (show aB.name n=ByteArray.empty by unfold aB.name;rw [abL (.inr h2)]);go_enter func71,ntmps71;go_wp2;go_ret;exact ⟨_,rfl,by rw [Hf.o];rfl,h⟩
 have h2d:decide (1048576<=n)=false:=aes h2;obtain ⟨m0,rfl⟩:=awg (show 0<=n by omega);have Hf:=uQ (show aB.name m0=⟨(aB.jW++aB.lu m0 8).toArray⟩ by unfold aB.name;rw [abB oQ];rfl);have hm0:m0<10^8:=oQ;have Hm:=uQ hm0;have hcv:=Lib.run_convert_bytes_const w 59 5 #[.int .u8 115,.int .u8 101,.int .u8 103,.int .u8 46,.int .u8 48,.int .u8 48,.int .u8 48,.int .u8 48,.int .u8 48,.int .u8 48,.int .u8 48,.int .u8 48] 12 12 underlying59 underlying5;have hB:au w0 (w.alloc (.cells #[.int .u8 115,.int .u8 101,.int .u8 103,.int .u8 46,.int .u8 48,.int .u8 48,.int .u8 48,.int .u8 48,.int .u8 48,.int .u8 48,.int .u8 48,.int .u8 48] 5 (12,13))) (Ac w.heap.size (aB.jW++List.replicate 8 48)::F):=h.alloc _;simp only [abC,aiT,ajw,aiO,Nat.reduceAdd]at hcv;clear hm0;go_enter func71,ntmps71;go_wp2_with fail;clear h1 h2 h1d h2d;generalize w.heap.size=q at *
 go_loopg [0,4] 8 (λg nv iq wr=>∃ (k m:Nat) (tail:Bs),g=k/\k<=8/\nv=.int .i64 m/\iq=.int .i64 (k+3)/\m<10^k/\aB.jW++aB.lu m0 8=aB.jW++aB.lu m k++tail/\tail.length=8-k /\
  au w0 wr (Ac q (aB.jW++List.replicate k 48++tail)::F))
 case atStart=>exact ⟨8,m0,[],rfl,abG _,rfl,rfl,Hm.o,by simp,rfl,by simpa using hB⟩
 case round=>
  obtain ⟨k,m,tail,hgk,hk,rfl,rfl,hm,hfin,htl,hS⟩:=hrel;have ant:=hgk.symm;subst ant;have iT:=uQ hfin;have AZ:=uQ htl;clear hB hfin htl;by_cases hp:0<m
  ·obtain ⟨k',rfl⟩:∃ k',k=k'+1:=by
    cases k with
    |zero=>simp at hm;omega
    |succ k'=>exact ⟨k',rfl⟩
   have hlen:(aB.jW++List.replicate (k'+1) 48++tail).length=12:=by
    have:=AZ.o;simp [aB.jW];omega
   have hidx:k'+4<(aB.jW++List.replicate (k'+1) 48++tail).length:=oQ;obtain ⟨e0,e1,hS5⟩:=JQ hS hidx (UInt8.ofNat (48+m%10));generalize (aB.jW++List.replicate (k'+1) 48++tail)[k'+4]'hidx=kP at e0;have hpi:(0:Int)<m:=oQ;have hki:k'+4<12:=oQ;have hdg:48+(m:Int)%10=((UInt8.ofNat (48+m%10)).toNat:Int):=by rw [ao4];omega
   have hm2:m<10*10^k':=by rw [awx]at hm;omega
   have hbig:10^(k'+1)<=10^8:=aon aU hk;have hw1:IntKind.i64.wrap ((m:Int)/10)=(m:Int)/10:=by rw [aiY];omega
   have Hm2:=uQ hm2;have Hdg:=uQ (show aB.lu m (k'+1)=aB.lu (m/10) k'++[UInt8.ofNat (48+m%10)] by rfl);have hc3:((k'+1:Nat):Int)+3=(k':Int)+4:=oQ;rw [hc3];clear hm hm2 hlen hidx hbig;generalize UInt8.ofNat (48+m%10)=dg at *
   go_wp2_with fail
   go_roundg k'
   case rel=>
    refine ⟨k',m/10,dg::tail,rfl,by omega,?_,?_,?_,?_,?_,?_⟩
    ·congr 1
    ·congr 1;omega
    ·have:=Hm2.o;omega
    ·rw [iT.o,Hdg.o];simp
    ·have:=AZ.o;simp;omega
    ·have e:(aB.jW++List.replicate (k'+1) 48++tail).set (k'+4) dg=aB.jW++List.replicate k' 48++dg::tail:=by
      have hl:(aB.jW++List.replicate k' (48:UInt8)).length=k'+4:=by simp only [aB.jW,aay,ajM,aiT,ajw];omega
      rw [List.replicate_succ',<-ab6,ab6 (aB.jW++List.replicate k' 48),List.set_append_right _ _ oQ,hl,auP]
      rfl
     rw [<-e];exact hS5
   case measure=>omega
  ·have hm0:m=0:=oQ;subst hm0;have htx:=apk hS 12;have hlen:(aB.jW++List.replicate k 48++tail).length=12:=by
    have:=AZ.o;simp [aB.jW];omega
   rw [hlen]at htx;clear hm;go_wp2;go_ret;refine ⟨_,rfl,?_,hS.drop⟩;rw [Hf.o,iT.o,aB.aau];simp
theorem RQ (s:ByteArray):(s.extract 0 4).toList=s.data.toList.take 4:=by
 rw [Go.Lib.extract_toList];simp
theorem akE (s:ByteArray) (h:s.size=12):(s.extract 4 12).data.toList=s.data.toList.drop 4:=by
 rw [Go.Lib.extract_data];refine acE ?_;have:s.data.toList.length=12:=by rw [ahN];exact h
 rw [abJ];omega
theorem ahw (s:ByteArray) (h:au w0 w F) :
  Calls prog 94 #[.string s] w (bf λv w'=>v=.tuple #[.int .i64 (aB.iD s).1,.bool (aB.iD s).2]/\au w0 w' F):=by
 by_cases o:s.size=12
 ·have J:((s.size:Int)=12):=oQ;have u:decide ((s.size:Int)=12)=true:=aiC J;by_cases x:s.data.toList.take 4=aB.jW
  ·have y:((s.extract 0 4).toList==[115,101,103,46])=true:=by rw [RQ s,x];rfl
   have r:=uQ (show aB.iD s=if (s.data.toList.drop 4).all aB.um=true/\aB.val (s.data.toList.drop 4)<1048576 then ((aB.val (s.data.toList.drop 4):Int),true) else (0,false) by
    unfold aB.iD;simp only [ahN,show s.data.size=12 from o,x,true_and])
   have R:=uQ (akE s o);have z:=run_bytes_of_string (P:=prog) w 9 59 5 (s.extract 4 12) underlying9 underlying59 underlying5;have O:(s.extract 4 12).size=8:=by simp [ByteArray.size_extract,o]
   have e:∀ (i:Nat) (hi:i<8),((w.alloc (.cells (bytesRow (s.extract 4 12) (grownCap w (s.extract 4 12).size 0 5)) 5 ((bytesRow (s.extract 4 12) (grownCap w (s.extract 4 12).size 0 5)).size,(bytesRow (s.extract 4 12) (grownCap w (s.extract 4 12).size 0 5)).size+1))).drew).cell? ⟨w.heap.size,0+i,none⟩=some (.int .u8 ((s.extract 4 12).data[i]'(by have:(s.extract 4 12).data.size=8:=O;omega)).toNat):=by
    intro i hi;rw [aiO];exact (World.cell?_alloc_mark w.drew _ _ _ _).trans (bytesRow_at _ _ _ _)
   have A:au w0 ((w.alloc (.cells (bytesRow (s.extract 4 12) (grownCap w (s.extract 4 12).size 0 5)) 5 ((bytesRow (s.extract 4 12) (grownCap w (s.extract 4 12).size 0 5)).size,(bytesRow (s.extract 4 12) (grownCap w (s.extract 4 12).size 0 5)).size+1))).drew) F:=(h.drew.alloc _).drop;rw [O]at z e A;have f:=uQ (show (s.data.toList.drop 4).length=8 by rw [abJ,ahN,show s.data.size=12 from o]);have a:∀ (i:Nat) (hi:i<(s.data.toList.drop 4).length),((w.alloc (.cells (bytesRow (s.extract 4 12) (grownCap w 8 0 5)) 5 ((bytesRow (s.extract 4 12) (grownCap w 8 0 5)).size,(bytesRow (s.extract 4 12) (grownCap w 8 0 5)).size+1))).drew).cell? ⟨w.heap.size,0+i,none⟩=some (.int .u8 ((s.data.toList.drop 4)[i]'hi).toNat):=by
    intro i hi;rw [e i (by rw [<-f.o];exact hi)]
    congr 4
    have:=R.o;rw [<-Array.getElem_toList];exact getElem_congr this rfl _
   clear e;generalize grownCap w 8 0 5=cap at *
   generalize s.data.toList.drop 4=l at *
   go_enter func94,ntmps94;go_wp2_with fail;clear z u y J o x;generalize World.drew _=S at *
   generalize w.heap.size=q at *
   go_loopg [4,19] 8 (λg nv T U=>∃ i:Nat,g=8-i/\i<=8/\nv=.int .i64 (aB.val (l.take i))/\T=.int .i64 i/\(l.take i).all aB.um=true/\U=S)
   case atStart=>exact ⟨0,rfl,by omega,rfl,rfl,rfl,rfl⟩
   case round=>
    obtain ⟨i,rfl,hi,rfl,rfl,n,rfl⟩:=hrel;have j:=uQ n;clear n;by_cases L:i<8
    ·have m:i<l.length:=by have:=f.o;omega
     have W:=a i m;rw [aiO]at W;have X:=uQ (List.getElem_mem m);have Y:(i:Int)<8:=oQ;have Q:=uQ (show aB.val (l.take (i+1))=10*aB.val (l.take i)+(l[i].toNat-48) by rw [ajA m,aB.Qn]);have Hd:=uQ (show (l.take (i+1)).all aB.um=aB.um l[i] by rw [ajA m,ana,j.o,awC];simp);have B:=uQ (aB.auO _ j.o);generalize l[i]=c at *
     by_cases hd:aB.um c=true
     ·have b:=hd;unfold aB.um at b;rw [ajg,ad2,ad2]at b;have b1:¬ c.toNat<48:=oQ;have b2:¬ 57<c.toNat:=oQ;have b3:(c.toNat:Int)-48=((c.toNat-48:Nat):Int):=oQ;have C:aB.val (l.take i)<100000000:=by
       have:=B.o;rw [abA]at this;exact awp this (aon aU oQ:_<=10^8)
      have Z:=uQ b;have b4:IntKind.i64.wrap (10*(aB.val (l.take i):Int))=10*(aB.val (l.take i):Int):=by rw [aiY];omega
      have b5:IntKind.i64.wrap (10*(aB.val (l.take i):Int)+((c.toNat-48:Nat):Int))=10*(aB.val (l.take i):Int)+((c.toNat-48:Nat):Int):=by rw [aiY];omega
      have b6:IntKind.i64.wrap ((i:Int)+1)=(i:Int)+1:=by rw [aiY];omega
      clear C b a;generalize c.toNat-48=d at *
      go_wp2_with fail
      go_roundg (8-(i+1))
      case measure=>omega
      case rel=>
       refine ⟨i+1,rfl,by omega,?_,rfl,by rw [Hd.o,hd],rfl⟩;rw [Q.o];rfl
     ·have D:¬ (l.all aB.um=true/\aB.val l<1048576):=λhh=>hd (ajC.1 hh.1 _ X.o);have E:=uQ (r.o.trans (abB D));have b:=hd;unfold aB.um at b;rw [ajg,ad2,ad2]at b;clear a D Q Hd;by_cases b1:c.toNat<48
      ·clear b;go_wp2
       go_ret2
       exact ⟨_,rfl,by rw [E.o];rfl,A⟩
      ·have b2:57<c.toNat:=oQ;clear b;go_wp2
       go_ret2
       exact ⟨_,rfl,by rw [E.o];rfl,A⟩
    ·obtain rfl:i=8:=oQ;have G:((8:Nat):Int)=8:=rfl;rw [G];clear G hi;have H:=uQ (show l.take 8=l from acE yR0)
     have I:=uQ (show aB.iD s=if aB.val l<1048576 then ((aB.val l:Int),true) else (0,false) by
      have:=j.o;rw [H.o]at this;rw [r.o];simp only [this,true_and])
     rw [H.o];clear a L;obtain ⟨V,K⟩:∃ V:Int,V=(aB.val l:Int):=⟨_,rfl⟩;have M:=uQ K;rw [<-K];by_cases t:1048576<=V
     ·have N:decide (1048576<=V)=true:=aiC t;have B:=uQ t;clear t K;go_wp2
      go_ret2
      exact ⟨_,rfl,by rw [I.o,abB (by have:=B.o;have:=M.o;omega)];rfl,A⟩
     ·have N:decide (1048576<=V)=false:=aes t;have B:=uQ t;clear t K;go_wp2
      go_ret2
      exact ⟨_,rfl,by rw [I.o,abL (by have:=B.o;have:=M.o;omega),<-M.o];rfl,A⟩
  ·have y:((s.extract 0 4).toList==[115,101,103,46])=false:=by rw [RQ s];exact alE x
   have r:=uQ (show aB.iD s=(0,false) by
    unfold aB.iD;simp only [x,false_and,and_false,auQ])
   go_enter func94,ntmps94;go_wp2
   go_ret2
   exact ⟨_,rfl,by rw [r.o];rfl,h⟩
 ·have J:¬ ((s.size:Int)=12):=oQ;have u:decide ((s.size:Int)=12)=false:=aes J
  have r:=uQ (show aB.iD s=(0,false) by
    unfold aB.iD;simp only [ahN,show ¬ s.data.size=12 from o,false_and,auQ])
  go_enter func94,ntmps94;go_wp2
  go_ret2
  exact ⟨_,rfl,by rw [r.o];rfl,h⟩
theorem alN:∀ d:Nat,d<10->(ByteArray.mk #[48,49,50,51,52,53,54,55,56,57]).extract d (d+1)=⟨#[UInt8.ofNat (48+d)]⟩:=by
 intro d hd;rcases d with _|_|_|_|_|_|_|_|_|_|d
 all_goals first|rfl|omega
theorem akD (c:UInt8) (l:aB.Bs):(ByteArray.mk #[c])++⟨l.toArray⟩=⟨(c::l).toArray⟩:=by
 apply ByteArray.ext;simp
theorem akF (l:aB.Bs):(ByteArray.mk #[115,101,103,46])++⟨l.toArray⟩=⟨(aB.jW++l).toArray⟩:=by
 apply ByteArray.ext;simp [aB.jW]
theorem agA (n:Int) (w:World) :
  Calls prog 25 #[.int .i64 n] w (bf λv w'=>v=.string (aB.name n)/\w=w'):=by
 by_cases o:n<0
 ·have Hf:=uQ (show aB.name n=ByteArray.empty by unfold aB.name;rw [abL (.inl o)]);go_enter func25,ntmps25;go_wp2;go_ret;exact ⟨_,rfl,by rw [Hf.o];rfl,rfl⟩
 have r:=aes o;by_cases s:1048576<=n
 ·have Hf:=uQ (show aB.name n=ByteArray.empty by unfold aB.name;rw [abL (.inr s)]);go_enter func25,ntmps25;go_wp2;go_ret;exact ⟨_,rfl,by rw [Hf.o];rfl,rfl⟩
 have t:=aes s;obtain ⟨c,rfl⟩:=awg (show 0<=n by omega);have Hf:=uQ (show aB.name c=⟨(aB.jW++aB.lu c 8).toArray⟩ by unfold aB.name;rw [abB oQ];rfl);have d:c<1048576:=oQ
 go_in
 go_wp2;clear o s r t
 go_loopg [0,3,4] 8 (λg nv C D E=>∃ (i m:Nat) (tail:Bs),g=8-i/\i<=8/\nv=.int .i64 m/\C=.string ⟨tail.toArray⟩/\D=.int .i64 i/\m<1048576/\aB.lu c 8=aB.lu m (8-i)++tail/\E=w)
 case atStart=>exact ⟨0,c,[],rfl,by omega,rfl,rfl,rfl,d,by simp,rfl⟩
 case round=>
  obtain ⟨i,m,tail,rfl,hi,rfl,rfl,rfl,z,a,rfl⟩:=hrel;have iT:=uQ a;have e:=uQ z;clear a z;by_cases u:i<8
  ·have F:i<8:=oQ;have A:=alN (m%10) (aqv _ oQ);have b:=akD (UInt8.ofNat (48+m%10)) tail;have f:aB.lu m (8-i)=aB.lu (m/10) (8-(i+1))++[UInt8.ofNat (48+m%10)]:=by
    rw [show 8-i=(8-(i+1))+1 by omega];rfl
   have j:tail.length=i:=by
    exact afT
   have G:¬ 9223372036854775807<1+tail.length:=oQ;have I:IntKind.i64.wrap (m/10)=(m:Int)/10:=by rw [aiY];have:=e.o;omega
   clear j;have H:=uQ A;have y:=uQ b;clear A b;go_wp2
   go_roundg (8-(i+1))
   case measure=>omega
   case rel=>
    refine ⟨i+1,m/10,UInt8.ofNat (48+m%10)::tail,rfl,by omega,rfl,by rw [H.o,y.o],rfl,by have:=e.o;omega,?_,rfl⟩;rw [iT.o,f];simp
  ·obtain rfl:i=8:=oQ;have l:((8:Nat):Int)=8:=rfl;rw [l];clear l u hi;have b:=akF tail;have j:tail.length=8:=by
    exact afT
   go_wp2;go_ret;refine ⟨_,rfl,?_,rfl⟩;rw [Hf.o,iT.o];rfl
def jg (l:List (Int×Int)):List Value:=l.flatMap λs=>[.int .i64 s.1,.int .i64 s.2]
abbrev tq (p m:Nat) (L:aB.aS) (lv:Value):aO:=pt p (.cells #[aW m,.int .i64 L.limit,lv,.bool L.on,.int .i64 L.dK] 146 (0,0))
def Gf (p m:Nat) (L:aB.aS) (lv:Value):List aO:=[tq p m L lv,aK 148 2 lv (jg L.l)]
def bC (p m:Nat) (L:aB.aS):aO:=λh=>∃ lv,nP (Gf p m L lv) h
theorem acO:(prog.info? 148).map (λi=>(i.zero,i.size,i.bytes))=some (some (.agg #[.int .i64 0,.int .i64 0]),2,16):=aC
section
variable {L:aB.aS}
theorem bC.open (h:au w0 w (bC p m L::F)):∃ lv,au w0 w (Gf p m L lv++F):=by
 obtain ⟨a,x,b,p,q,d,rfl,⟨lv,c⟩,e⟩:=h;refine ⟨lv,a,_,b,?_⟩;rw [zG];exact ⟨p,q,d,rfl,c,e⟩
theorem bC.fA (h:au w0 w (Gf p m L lv++F)):au w0 w (bC p m L::F):=
 h.join λ_ hx=>⟨lv,hx⟩
theorem qx (l:List (Int×Int)):(jg l).length=2*l.length:=by
 unfold jg
 induction l with
 |nil=>rfl
 |cons a l ih=>rw [aiN,aay,ih];simp;omega
theorem Fq (l k:List (Int×Int)):jg (l++k)=jg l++jg k:=by unfold jg;rw [ai5]
theorem aj6 (hM:M.Ok K) (h:au w0 w (aV m M::F)) :
  Calls prog 93 #[aW m] w (bf λv w'=>v=dS (aB.alive M)/\w=w'):=by
 have b:=Fv hM h ByteArray.empty;have a:=(show aB.alive M=if (M.size ByteArray.empty).2=9 then 0 else (M.size ByteArray.empty).2 from rfl);generalize (M.size ByteArray.empty).2=e at *
 generalize (M.size ByteArray.empty).1=n at *
 by_cases c:e=9
 ·subst c
  go_in
  go_wp2_with fail;refine b.mono ?_;rintro e d ⟨v,rfl,rfl,rfl⟩;go_wp2;go_ret;exact ⟨_,rfl,by rw [a];rfl,rfl⟩
 ·have f:=alE c
  go_in
  go_wp2_with fail;refine b.mono ?_;rintro e d ⟨v,rfl,rfl,rfl⟩;go_wp2;go_ret;exact ⟨_,rfl,by rw [a,abB c];rfl,rfl⟩
theorem OJ (hM:M.Ok K) (limit:Int) (h:au w0 w (aV m M::F)) (ha:aB.alive M=0) (h1:128<=limit) (h2:limit<=1048576) :
  Calls prog 40 #[aW m,.int .i64 limit] w (bf λv w'=>∃ p,v=.tuple #[aW p,dS 0]/\au w0 w' (bC p m (aB.dK M limit)::aV m M::F)):=by
 have hal:=aj6 hM h;rw [ha]at hal;have hd1:decide (limit<128)=false:=aes oQ;have hd2:decide (1048576<limit)=false:=aes oQ;obtain ⟨i,hi,hz0,hz1,hz2⟩:=info_parts acO
 have hll:=uQ (show M.list.length<=500 by
  unfold aG.list;split
  ·simp
  ·rw [abl];exact hM.jR.len)
 clear h1 h2 ha;go_enter func40,ntmps40;go_wp2_with fail;refine hal.mono ?_;rintro e w1 ⟨v,rfl,rfl,rfl⟩;clear hal;have hB:=h.alloc (.cells #[aW m,.int .i64 limit,.slice none 0 0,.bool false,.int .i64 0] 146);have hL:=JL hM hB.bZ;go_wp2_with fail;refine hL.mono ?_;rintro e w2 ⟨v,rfl,hS,ba,bn,bc,rfl⟩;have hlen:bn=M.list.length:=by
  obtain ⟨a',n',c',he,hl,_⟩:=au.rd hS;cases he;rw [atX,aiR]at hl;exact hl.symm
 clear hL hB;subst hlen;generalize w.heap.size=q at *
 go_wp2_with fail
 go_loopg [32] M.list.length (λg iq wr=>∃ (i:Nat) (lv:Value),g=M.list.length-i/\i<=M.list.length/\iq=.int .i64 i/\au w0 wr (Gf q m ⟨limit,aB.qF M (M.list.take i),false,0⟩ lv++aK 9 1 (.slice ba M.list.length bc) (nG M.list)::aV m M::F))
 case atStart=>exact ⟨0,.slice none 0 0,rfl,acn _,rfl,by
  have:=au.iW (T:=148) (sz:=2) |>.2 hS;exact this.gZ 4 [3,0,1,2] rfl rfl⟩
 case round=>
  obtain ⟨j,lv,rfl,hj,rfl,hR⟩:=hrel;clear hS;by_cases hj':j<M.list.length
  ·have hx:M.list[j]?=some (M.list[j]'hj'):=aaf hj';have hcx:=au.rd (hR.gZ 3 [2] rfl rfl);obtain ⟨bk,off,hba,c1⟩:=Ak hcx (atV hx)
   have AU:=uQ (show aB.qF M (M.list.take (j+1))=aB.qF M (M.list.take j)++(if (aB.iD M.list[j]).2=true then [((aB.iD M.list[j]).1,(M.size M.list[j]).1)] else []) by
    rw [ajA hj',aB.amK])
   have hnum:=ahw M.list[j] hR;have yE:=uQ (aB.amJ M (M.list.take j));generalize M.list[j]=s at *
   have hic:(j:Int)<(M.list.length:Int):=oQ;have hjl:=uQ hj';clear hx hcx hj';subst hba;go_wp2_with fail;refine hnum.mono ?_;rintro e w3 ⟨v,rfl,rfl,NI⟩;clear hnum;have hwi:IntKind.i64.wrap ((j:Int)+1)=(j:Int)+1:=abR _ (by have:=hll.o;have:=hjl.o;omega);cases hb:(aB.iD s).2
   ·have Hb:=uQ hb;clear hb;go_wp2
    go_roundg (M.list.length-(j+1))
    case measure=>have:=hjl.o;omega
    case rel=>
     refine ⟨j+1,lv,rfl,aiW hjl.o,by first|rfl|go_num,?_⟩;rw [AU.o,Hb.o,abB aU,ahB];exact NI
   ·have Hb:=uQ hb;clear hb;have hsz:=Fv hM (NI.gZ 4 [3,0,1,2] rfl rfl) s;go_wp2_with fail;refine hsz.mono ?_;rintro e w4 ⟨v,rfl,rfl,rfl⟩;clear hsz;have c2:=NI.dD 2 _ rfl;generalize (M.size s).1=sz at *
    generalize (M.size s).2=se at *
    generalize (aB.iD s).1=nu at *
    have h7:=NI.alloc (.cells #[.int .i64 nu,.int .i64 sz] 148);have hoc:∀ u∈(#[.int .i64 nu,.int .i64 sz]:Array Value).toList,u.oneCell'=true:=by
     intro u hu;simp only [ab9,ajW,av2]at hu;rcases hu with rfl|rfl <;> rfl
    have hlen:(jg (aB.qF M (M.list.take j))).length<=2*500:=by
     rw [qx];have:=yE.o;have:=hll.o;rw [abA]at *;omega
    have h63:(jg (aB.qF M (M.list.take j))).length+2<=maxLen:=by unfold maxLen;omega
    have hby:((jg (aB.qF M (M.list.take j))).length+2)*i.bytes<=140737488355328:=by rw [hz2];omega
    have h8:au w0 _ (aK 148 2 lv (jg (aB.qF M (M.list.take j)))::tq q m ⟨limit,aB.qF M (M.list.take j),false,0⟩ lv::aK 9 1 (.slice (some ⟨bk,off,none⟩) M.list.length bc) (nG M.list)::aV m M::F):=h7.gZ 5 [2,1,3,4] rfl rfl;clear hlen;go_wp2_with (at_builtin;go_must (refine AA (w0:=w0) aA _ _ _ aA _ i _ underlying144 hi hz0 hz1 aA oQ aA aA hoc h8 (Dx _ _ _ 2 1 1 aA) h63 hby ?_);intro v2 w5 hS5 hne;obtain ⟨ab,an,ac,rfl⟩:=hne yD0;have e2:=hS5.bZ.dD 2 _ rfl;have g2:=hS5.bZ.uJ 2);have hS6:=hS5.bZ.set 2 (.slice (some ⟨ab,0,none⟩) an ac);generalize w5.setCell _ _=w6 at *
    go_roundg (M.list.length-(j+1))
    case measure=>have:=hjl.o;omega
    case rel=>
     refine ⟨j+1,.slice (some ⟨ab,0,none⟩) an ac,rfl,aiW hjl.o,by first|rfl|go_num,?_⟩;rw [AU.o,Hb.o,abL rfl];unfold Gf;rw [Fq];exact hS6
  ·obtain rfl:j=M.list.length:=oQ;have hic:¬ (M.list.length:Int)<(M.list.length:Int):=oQ;rw [ai0]at hR;clear hj hj';go_wp2
   go_ret2
   refine ⟨_,rfl,q,rfl,?_⟩;exact bC.fA (hR.gZ 4 [0,1,3] rfl rfl)
end
section
variable {xs ys:List Value}
theorem agX (t ty e:TypeId) (i:TypeInfo) (z:Value) (O:P.underlying t=some (.slice e)) (hi:P.info? e=some i) (Q:i.zero=some z)
  (K:i.size=1) (hzs:z.cells.size=1) (b n cap:Nat) (H:xs.length=n) (L:cap<=n) (G:bK 1 (.slice (some ⟨b,0,none⟩) n cap) xs w)
  (h:au w0 w R) (hx:bK 1 x ys w) (hy0:ys≠[]) (S:xs.length+ys.length<=maxLen) (I:(xs.length+ys.length)*i.bytes<=140737488355328) :
  ∃ J M N w',(Builtin.append_ #[t,t] ty #[.slice (some ⟨b,0,none⟩) n cap,x]).run P w=.ok (.slice (some ⟨J,0,none⟩) M N) w'/\au w0 w' (aK e 1 (.slice (some ⟨J,0,none⟩) M N) (xs++ys)::R):=by
 obtain ⟨v,m,c,rfl,a,NT⟩:=hx;obtain ⟨b1,D,E,g,A,l⟩:=G;cases g;rw [aiR]at a;have F:0<m:=by
  rw [<-a];exact List.length_pos_iff.2 hy0
 obtain ⟨f,rfl⟩:∃ f,v=some f:=by
  exact Vj
 have d:∀ j u,ys[j]?=some u->w.cell? (f.add j)=some u:=λj u hj=>by
  exact VD
 have holds:∀ j u,xs[j]?=some u->w.cell? ((⟨b,0,none⟩:Addr).add j)=some u:=λj u hj=>by
  obtain ⟨J,hb,hx⟩:=l j u hj;cases hb;exact hx
 have s:maxLen=9223372036854775807:=rfl;have B:=run_append_grow w t ty e i z O hi Q ⟨b,0,none⟩ n cap xs (by rw [K];omega) holds f m c ys (by rw [K];omega) d oQ oQ (growslice_fits oQ (by rw [<-H,<-a];exact I));refine ⟨_,_,_,_,B,?_⟩;have o:=grownCap_ge w (n+m) cap e;have r:=grownCap_le_maxLen w (n+m) cap e oQ;have:=(h.drew).alloc (.cells (xs.toArray++ys.toArray++Builtin.zeroCells z.cells (grownCap w (n+m) cap e-(n+m))) e);refine au.pV this ?_ o ?_ r ?_
 ·rw [aay,H,a,aiR]
 ·simp only [Array.size_append,abC,size_zeroCells,hzs];omega
 ·simp only [awk,ab6];rw [<-ab6];have C:(n+m)*1=(xs++ys).length:=by rw [aay,H,a,aiR]
  rw [C];exact List.take_left
theorem atU {ops:Array Oper}{o:Oper}{a:Act}{K:Act->World->Prop}{Q:Exit->Act->World->Prop}{E:Prop} (hgd:o.guard=none) (s y:Operand) (t:TypeId)
  (ho:o.op=.call { callee:= .builtin .append,args:=#[s,y],argTypes:=#[t,t] })
  (e:TypeId) (i:TypeInfo) (z:Value) (ht:P.underlying t=some (.slice e)) (hi:P.info? e=some i) (hz:i.zero=some z)
  (hs:i.size=1) (hzs:z.cells.size=1) {b n cap:Nat} (hl:xs.length=n) (hcap:cap<=n) (hold:bK 1 (.slice (some ⟨b,0,none⟩) n cap) xs w)
  (h:au w0 w R) (hv:a.eval s=.slice (some ⟨b,0,none⟩) n cap) (hxv:a.eval y=x) (hx:bK 1 x ys w) (hy0:ys≠[]) (h63:xs.length+ys.length<=maxLen) (hby:(xs.length+ys.length)*i.bytes<=140737488355328)
  (hK:∀ b' n' c' w',au w0 w' (aK e 1 (.slice (some ⟨b',0,none⟩) n' c') (xs++ys)::R)->K (a.put o.dst (.slice (some ⟨b',0,none⟩) n' c')) w') :
  if Region.wanted o (yielded ops a.tmps)=true then Oper.wp P o a w K Q else E:=by
 have hw:Region.wanted o (yielded ops a.tmps)=true:=by simp [Region.wanted,hgd]
 rw [abL hw];obtain ⟨b',n',c',w',hr,h2⟩:=agX t o.type e i z ht hi hz hs hzs b n cap hl hcap hold h hx hy0 h63 hby;refine afF ?_;exact hK _ _ _ w' h2
end
section
variable {L:aB.aS}
theorem Aj (h:au w0 w (tq p m L lv::F)) :
  Calls prog 69 #[aW p] w (bf λv w'=>v=.bool true/\w=w'):=by
 have c0:=h.dD 0 _ rfl
 go_in
 go_wp2;go_ret;exact ⟨_,rfl,rfl,rfl⟩
theorem apD (hl:L.l=[]) (h:au w0 w (tq p m L lv::aK 148 2 lv (jg L.l)::F)) :
  Calls prog 226 #[aW p] w (bf λv w'=>v=.int .i64 0/\w=w'):=by
 have b:=Aj h;have f:=h.dD 2 _ rfl;have d:∃ a c,lv=.slice a 0 c:=by
  obtain ⟨a,n,c,rfl,hn,_⟩:=au.rd h.bZ;refine ⟨a,c,?_⟩;rw [hl]at hn;have:n=0:=by simp [jg]at hn;omega
  rw [this]
 obtain ⟨g,lc,rfl⟩:=d
 go_in
 go_wp2_with (go_at_call 69;refine b.mono ?_;rintro e i ⟨v,rfl,rfl,rfl⟩);go_ret;exact ⟨_,rfl,rfl,rfl⟩
theorem atu (hon:L.on=false) (h:au w0 w (tq p m L lv::F)) :
  Calls prog 225 #[aW p] w (bf λv w'=>v=dS 0/\w=w'):=by
 have c3:=h.dD 3 _ rfl;rw [hon]at c3
 go_in
 go_wp2;go_ret;exact ⟨_,rfl,rfl,rfl⟩
end
def iK (cs:Array Value):Nat->List Value->Array Value
 |_,[]=>cs
 |o,v::r=>iK (cs.setIfInBounds o v) (o+1) r
theorem pW:∀ (vs:List Value) (cs:Array Value) (o:Nat),(iK cs o vs).size=cs.size
 |[],_,_=>rfl
 |v::r,cs,o=>by rw [iK,pW r,Array.size_setIfInBounds]
theorem au.KA:∀ (vs:List Value){cs:Array Value}{T:TypeId}{w:World} (o:Nat),au w0 w (pt b (.cells cs T (0,0))::R)->au w0 (w.setCells b o vs) (pt b (.cells (iK cs o vs) T (0,0))::R)
 |[],_,_,_,_,h=>h
 |v::r,_,_,_,o,h=>au.KA r (o+1) (h.set o v)
theorem KX {ops:Array Oper}{rest:List Oper}{op:Oper}{a:Act}{Q:Exit->Act->World->Prop}{cs:Array Value}{T:TypeId} (g:op.guard=none) (ty:TypeId) (x y:Operand) (m:op.op=.store ty x y)
  (o:Nat) (v:Value) (n:a.eval x=.pointer (some ⟨b,o,none⟩)) (hy:a.eval y=v) (l:o+v.cells.size<=cs.size)
  (hi:(P.info? ty).map (·.size)=some v.cells.size) (r:v.cells.all (·.oneCell')=true) (h:au w0 w (pt b (.cells cs T (0,0))::R))
  (s:∀ w',au w0 w' (pt b (.cells (iK cs o v.cells.toList) T (0,0))::R)->wpList P ops Q rest (a.put op.dst undef) w'):wpList P ops Q (op::rest) a w:=by
 have c:w.there b o v.cells.size:=by
  exact afG
 refine ajs g λ_ e=>?_
 have hst:=run_storeCells_cells (P:=P) b o v.cells.toList 0 w (λj hj=>by simpa using (c j yY0).1) (λj hj=>by simpa using (c j yY0).2)
  (λu f=>(Array.all_eq_true_iff_forall_mem.1 r) u (by simpa using f))
 have d:(storeVar ty ⟨b,o,none⟩ v).run P w=.ok () (w.setCells b o v.cells.toList):=by
  cases hq:P.info? ty with
  |none=>simp [hq]at hi
  |some i=>
   exact afD
 unfold Oper.wp execOp;simp only [m,n,hy,Instr.storeAt,Instr.sureAddr,aii,aiV,acz,d];exact e _ _ (s _ (au.KA _ _ h))
structure lQ (p:Prop):Prop where
 out:p
theorem lQ.o:type_of% @lQ.out:=@lQ.out
theorem ave {ops:Array Oper}{rest:List Oper}{op:Oper}{a:Act}{Q:Exit->Act->World->Prop}{ty:TypeId}{x y:Operand} (ho:op.op=.store ty x y)
  (h:lQ (wpList P ops Q (op::rest) a w)):wpList P ops Q (op::rest) a w:=h.o
theorem sQ(h:C:=by first | assumption | exact iw _ _ rfl | exact iw _ _ aQ | exact iw _ _ (avP aQ)):C:=h
theorem pQ(h:C:=by first | (simp only [iK, Value.cells]; (try go_frame); first | done | rfl) | rfl):C:=h
theorem gQ(h:C:=by go_frame; first | done | rfl):C:=h
theorem fQ(h:C:=by first | rfl | assumption | exact avP aQ):C:=h
theorem wQ(h:C:=by with_reducible rfl):C:=h
end Go.Proofs.Y
namespace Go.Sl
open Go
def mW (A:aO) (L R:List aO):Prop:=L.Perm (A::R)
def vY (A B:aO) (L L':List aO):Prop:=∃ R,L.Perm (A::R)/\L'.Perm (B::R)
def xu (L M:List aO):Prop:=∃ X,L.Perm (M++X)
section
variable {A B A1 A2 A3 A4 A5 A6 A7 A8 A9 A10 A11 A12:aO}{L M R L':List aO}{w0 w:World}
theorem bW (h:mW A L R):mW A (B::L) (B::R):=(h.cons B).trans (List.Perm.swap _ _ _)
theorem bJ:mW A (A::R) R:=ao9 _
theorem bZ:mW A (A1::A::R) (A1::R):=bW bJ
theorem jS:mW A (A1::A2::A::R) (A1::A2::R):=bW bZ
theorem mD:mW A (A1::A2::A3::A::R) (A1::A2::A3::R):=bW jS
theorem yU:mW A (A1::A2::A3::A4::A::R) (A1::A2::A3::A4::R):=bW mD
theorem aqi:mW A (A1::A2::A3::A4::A5::A::R) (A1::A2::A3::A4::A5::R):=bW yU
theorem pJ (h:vY A B L L'):vY A B (A1::L) (A1::L'):=by
 obtain ⟨R,h1,h2⟩:=h;exact ⟨A1::R,(h1.cons A1).trans (List.Perm.swap _ _ _),(h2.cons A1).trans (List.Perm.swap _ _ _)⟩
theorem eu:vY A B (A::R) (B::R):=⟨R,ao9 _,ao9 _⟩
theorem Xj:vY A B (A1::A::R) (A1::B::R):=pJ eu
theorem auG:vY A B (A1::A2::A::R) (A1::A2::B::R):=pJ Xj
theorem W9:xu L L:=⟨[],by simp⟩
theorem WZ (h:xu L M):xu (A::L) M:=by
 obtain ⟨X,h⟩:=h;exact ⟨A::X,(h.cons A).trans auH.symm⟩
theorem Iy (p:mW A L R) (h:xu R M):xu L (A::M):=by
 obtain ⟨X,h⟩:=h;exact ⟨X,p.trans (h.cons A)⟩
theorem au.pick (h:au w0 w L) (p:mW A L R):au w0 w (A::R):=h.perm p
theorem au.sub (h:au w0 w L) (p:xu L M):au w0 w M:=by
 obtain ⟨X,h2⟩:=p;exact (h.perm h2).aaw
theorem Ro.sS {A:aO}{p:World->Prop} (h:Ro w0 (A::R) p) (k:mW A L R):Ro w0 L p:=λw hw=>h w (hw.pick k)
theorem Ro.H9 {p:World->Prop} (h:Ro w0 M p) (k:xu L M):Ro w0 L p:=λw hw=>h w (hw.sub k)
theorem au.bI {b:Nat}{cs:Array Value}{T:TypeId} (h:au w0 w L) (p:mW (pt b (.cells cs T (0,0))) L R) (i:Nat){v:Value} (hv:cs[i]?=some v):w.cell? ⟨b,i,none⟩=some v:=(h.pick p).dD i v hv
end
end Go.Sl
