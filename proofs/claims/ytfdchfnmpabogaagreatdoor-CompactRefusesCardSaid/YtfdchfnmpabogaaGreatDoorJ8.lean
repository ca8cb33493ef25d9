import Derived.Test.YtfdchfnmpabogaaGreatDoorJ7
import Derived.Laws.BitsAllLaws
set_option linter.unusedVariables false
set_option maxHeartbeats 128000000
namespace Go.Xx
open Go.Frm (Bs num le num_lt)
def W:Nat:=18446744073709551616
def p1:Nat:=11400714785074694791
def p2:Nat:=14029467366897019727
def p3:Nat:=1609587929392839161
def p4:Nat:=9650029242287828579
def p5:Nat:=2870177450012600261
def turn (x k:Nat):Nat:=(x * 2^k%W) ||| (x / 2^(64 - k))
def lane (a w:Nat):Nat:=turn ((a+w * p2%W)%W) 31 * p1%W
structure Ln where
 a:Nat
 b:Nat
 c:Nat
 d:Nat
def Ln.zero:Ln:=⟨(p1+p2)%W,p2,0,W - p1⟩
def Ln.lt (l:Ln):Prop:=l.a<W∧l.b<W∧l.c<W∧l.d<W
def strip (l:Ln) (b:Bs):Ln:=⟨lane l.a (num (b.take 8)),lane l.b (num ((b.drop 8).take 8)),lane l.c (num ((b.drop 16).take 8)),lane l.d (num ((b.drop 24).take 8))⟩
def goL:Nat→Ln→Bs→Ln×Bs
 |0,l,b=>(l,b)
 |n+1,l,b=>if 32≤b.length then goL n (strip l b) (b.drop 32) else (l,b)
def mix (x a:Nat):Nat:=((x ^^^ lane 0 a) * p1%W+p4)%W
def joined (l:Ln):Nat:=mix (mix (mix (mix ((((turn l.a 1+turn l.b 7)%W+turn l.c 12)%W+turn l.d 18)%W) l.a) l.b) l.c) l.d
def t8 (x w:Nat):Nat:=(turn (x ^^^ lane 0 w) 27 * p1%W+p4)%W
def t4 (x w:Nat):Nat:=(turn (x ^^^ (w * p1%W)) 23 * p2%W+p3)%W
def t1 (x:Nat) (c:UInt8):Nat:=turn (x ^^^ (c.toNat * p5%W)) 11 * p1%W
def tail8:Nat→Nat→Bs→Nat×Bs
 |0,x,b=>(x,b)
 |n+1,x,b=>if 8≤b.length then tail8 n (t8 x (num (b.take 8))) (b.drop 8) else (x,b)
def tail4 (x:Nat) (b:Bs):Nat×Bs:=if 4≤b.length then (t4 x (num (b.take 4)),b.drop 4) else (x,b)
def tail (x:Nat) (b:Bs):Nat:=(tail4 (tail8 b.length x b).1 (tail8 b.length x b).2).2.foldl t1 (tail4 (tail8 b.length x b).1 (tail8 b.length x b).2).1
def f1 (x:Nat):Nat:=(x ^^^ (x / 8589934592)) * p2%W
def f2 (x:Nat):Nat:=(x ^^^ (x / 536870912)) * p3%W
def f3 (x:Nat):Nat:=x ^^^ (x / 4294967296)
def sum (b:Bs):Nat:=f3 (f2 (f1 (tail (((if 32≤b.length then joined (goL b.length Ln.zero b).1 else p5)+b.length)%W) (goL b.length Ln.zero b).2)))
theorem W_pos:0<W:=by decide
theorem mod_lt (x:Nat):x%W<W:=Nat.mod_lt _ W_pos
theorem W64:W=2^64:=by decide
theorem xor_lt {a b:Nat} (ha:a<W) (hb:b<W):a ^^^ b<W:=by rw [W64]at *;exact Nat.xor_lt_two_pow ha hb
theorem div_lt {x:Nat} (k:Nat) (h:x<W):x / k<W:=Nat.lt_of_le_of_lt (Nat.div_le_self _ _) h
theorem lane_lt (a w:Nat):lane a w<W:=mod_lt _
theorem zero_lt:Ln.zero.lt:=⟨mod_lt _,by decide,by decide,by decide⟩
theorem strip_lt (l:Ln) (b:Bs):(strip l b).lt:=⟨lane_lt _ _,lane_lt _ _,lane_lt _ _,lane_lt _ _⟩
theorem goL_lt:∀ (n:Nat) (l:Ln) (b:Bs),l.lt→(goL n l b).1.lt
 |0,l,b,h=>h
 |n+1,l,b,h=>by
  unfold goL
  split
  ·exact goL_lt n _ _ (strip_lt l b)
  ·exact h
theorem t8_lt (x w:Nat):t8 x w<W:=mod_lt _
theorem t4_lt (x w:Nat):t4 x w<W:=mod_lt _
theorem t1_lt (x:Nat) (c:UInt8):t1 x c<W:=mod_lt _
theorem tail8_lt:∀ (n x:Nat) (b:Bs),x<W→(tail8 n x b).1<W
 |0,x,b,h=>h
 |n+1,x,b,h=>by
  unfold tail8
  split
  ·exact tail8_lt n _ _ (t8_lt _ _)
  ·exact h
theorem tail4_lt (x:Nat) (b:Bs) (h:x<W):(tail4 x b).1<W:=by
 unfold tail4
 split
 ·exact t4_lt _ _
 ·exact h
theorem fold_lt:∀ (b:Bs) (x:Nat),x<W→b.foldl t1 x<W
 |[],x,h=>h
 |c::b,x,h=>fold_lt b _ (t1_lt _ _)
theorem tail_lt (x:Nat) (b:Bs) (h:x<W):tail x b<W:=fold_lt _ _ (tail4_lt _ _ (tail8_lt _ _ _ h))
theorem f2_lt (x:Nat):f2 x<W:=mod_lt _
theorem f3_lt {x:Nat} (h:x<W):f3 x<W:=xor_lt h (div_lt _ h)
theorem sum_lt (b:Bs):sum b<W:=f3_lt (f2_lt _)
theorem goL_len2:∀ (n:Nat) (l:Ln) (b:Bs),(goL n l b).2.length≤b.length
 |0,l,b=>Nat.le_refl _
 |n+1,l,b=>by
  unfold goL
  split
  ·exact Nat.le_trans (goL_len2 n _ _) (by rw [List.length_drop];omega)
  ·exact Nat.le_refl _
theorem goL_step {n:Nat}{l:Ln}{b:Bs} (hb:32≤b.length) (hn:b.length≤n):goL n l b=goL (n - 32) (strip l b) (b.drop 32):=by
 obtain ⟨m,rfl⟩:∃ m,n=m+1:=⟨n - 1,by omega⟩
 have h:goL (m+1) l b=goL m (strip l b) (b.drop 32):=by
  conv=>lhs;unfold goL
  rw [if_pos hb]
 rw [h]
 exact goL_fuel m (m+1 - 32) (strip l b) (b.drop 32) (by rw [List.length_drop];omega) (by rw [List.length_drop];omega)
where
 goL_fuel:∀ (n m:Nat) (l:Ln) (b:Bs),b.length≤n→b.length≤m→goL n l b=goL m l b
 |0,0,l,b,_,_=>rfl
 |0,m+1,l,b,h,_=>by
  have:¬ 32≤b.length:=oQ
  unfold goL;rw [if_neg this]
 |n+1,0,l,b,_,h=>by
  have:¬ 32≤b.length:=oQ
  unfold goL;rw [if_neg this]
 |n+1,m+1,l,b,h1,h2=>by
  unfold goL
  split
  ·exact goL_fuel n m _ _ (by rw [List.length_drop];omega) (by rw [List.length_drop];omega)
  ·rfl
theorem goL_stop {n:Nat}{l:Ln}{b:Bs} (hb:¬ 32≤b.length):goL n l b=(l,b):=by
 cases n with
 |zero=>rfl
 |succ n=>unfold goL;rw [if_neg hb]
theorem tail8_step {n x:Nat}{b:Bs} (hb:8≤b.length) (hn:b.length≤n):tail8 n x b=tail8 (n - 8) (t8 x (num (b.take 8))) (b.drop 8):=by
 obtain ⟨m,rfl⟩:∃ m,n=m+1:=⟨n - 1,by omega⟩
 have h:tail8 (m+1) x b=tail8 m (t8 x (num (b.take 8))) (b.drop 8):=by
  conv=>lhs;unfold tail8
  rw [if_pos hb]
 rw [h]
 exact fuel m (m+1 - 8) _ (b.drop 8) (by rw [List.length_drop];omega) (by rw [List.length_drop];omega)
where
 fuel:∀ (n m x:Nat) (b:Bs),b.length≤n→b.length≤m→tail8 n x b=tail8 m x b
 |0,0,x,b,_,_=>rfl
 |0,m+1,x,b,h,_=>by
  have:¬ 8≤b.length:=oQ
  unfold tail8;rw [if_neg this]
 |n+1,0,x,b,_,h=>by
  have:¬ 8≤b.length:=oQ
  unfold tail8;rw [if_neg this]
 |n+1,m+1,x,b,h1,h2=>by
  unfold tail8
  split
  ·exact fuel n m _ _ (by rw [List.length_drop];omega) (by rw [List.length_drop];omega)
  ·rfl
theorem tail8_stop {n x:Nat}{b:Bs} (hb:¬ 8≤b.length):tail8 n x b=(x,b):=by
 cases n with
 |zero=>rfl
 |succ n=>unfold tail8;rw [if_neg hb]
end Go.Xx
namespace Go.Proofs.YtfdchfnmpabogaaGreatDoor
open Go Go.Sl Go.Med Go.MapKept Go.RowKit
section
variable {x y z a n c:Nat}
theorem wrapN (x:Nat):IntKind.u64.wrap (x:Int)=((x%18446744073709551616:Nat):Int):=by rw [IntKind.wrap_u64];rfl
theorem mulN (x c:Nat):IntKind.u64.wrap ((x:Int) * (c:Int))=((x * c%18446744073709551616:Nat):Int):=by rw [← Int.natCast_mul,wrapN]
theorem addN (x c:Nat):IntKind.u64.wrap ((x:Int)+(c:Int))=(((x+c)%18446744073709551616:Nat):Int):=by rw [← Int.natCast_add,wrapN]
theorem orN (x y:Nat) (hx:x<18446744073709551616) (hy:y<18446744073709551616):bits .or .u64 (x:Int) (y:Int)=((x ||| y:Nat):Int):=u64_or_nat x y hx hy
theorem xorN (x y:Nat) (hx:x<18446744073709551616) (hy:y<18446744073709551616):bits .xor .u64 (x:Int) (y:Int)=((x ^^^ y:Nat):Int):=u64_xor_nat x y hx hy
theorem modW (x:Nat):x%18446744073709551616<18446744073709551616:=Nat.mod_lt _ dCz
theorem xorW (hx:x<18446744073709551616) (hy:y<18446744073709551616):x ^^^ y<18446744073709551616:=Xx.xor_lt (show x<Xx.W from hx) (show y<Xx.W from hy)
theorem laneW (a w:Nat):Xx.lane a w<18446744073709551616:=Xx.lane_lt a w
theorem lane_ex (a x:Nat):∃ y z u:Nat,IntKind.u64.wrap ((x:Int) * 14029467366897019727)=(y:Int)∧IntKind.u64.wrap ((a:Int)+(y:Int))=(z:Int)∧z<18446744073709551616∧IntKind.u64.wrap ((Xx.turn z 31:Nat) * (11400714785074694791:Int))=(u:Int)∧Xx.lane a x=u:=
 ⟨x * Xx.p2%18446744073709551616,(a+x * Xx.p2%18446744073709551616)%18446744073709551616,Xx.turn ((a+x * Xx.p2%18446744073709551616)%18446744073709551616) 31 * Xx.p1%18446744073709551616,mulN x Xx.p2,addN _ _,modW _,mulN _ Xx.p1,rfl⟩
theorem mix_ex (hx:x<18446744073709551616) (a:Nat):∃ y z u:Nat,bits .xor .u64 (x:Int) ((Xx.lane 0 a:Nat):Int)=(y:Int)∧IntKind.u64.wrap ((y:Int) * 11400714785074694791)=(z:Int)∧IntKind.u64.wrap ((z:Int)+9650029242287828579)=(u:Int)∧u<18446744073709551616∧Xx.mix x a=u:=
 ⟨x ^^^ Xx.lane 0 a,(x ^^^ Xx.lane 0 a) * Xx.p1%18446744073709551616,((x ^^^ Xx.lane 0 a) * Xx.p1%18446744073709551616+Xx.p4)%18446744073709551616,xorN x _ hx (laneW 0 a),mulN _ Xx.p1,addN _ Xx.p4,modW _,rfl⟩
theorem t8_ex (hx:x<18446744073709551616) (n:Nat):∃ r z u:Nat,bits .xor .u64 (x:Int) ((Xx.lane 0 n:Nat):Int)=(r:Int)∧r<18446744073709551616∧IntKind.u64.wrap ((Xx.turn r 27:Nat) * (11400714785074694791:Int))=(z:Int)∧IntKind.u64.wrap ((z:Int)+9650029242287828579)=(u:Int)∧u<18446744073709551616∧Xx.t8 x n=u:=
 ⟨x ^^^ Xx.lane 0 n,Xx.turn (x ^^^ Xx.lane 0 n) 27 * Xx.p1%18446744073709551616,(Xx.turn (x ^^^ Xx.lane 0 n) 27 * Xx.p1%18446744073709551616+Xx.p4)%18446744073709551616,xorN x _ hx (laneW 0 n),xorW hx (laneW 0 n),mulN _ Xx.p1,addN _ Xx.p4,modW _,rfl⟩
theorem t4_ex (hx:x<18446744073709551616) (n:Nat):∃ t r z u:Nat,IntKind.u64.wrap ((n:Int) * 11400714785074694791)=(t:Int)∧bits .xor .u64 (x:Int) (t:Int)=(r:Int)∧r<18446744073709551616∧IntKind.u64.wrap ((Xx.turn r 23:Nat) * (14029467366897019727:Int))=(z:Int)∧IntKind.u64.wrap ((z:Int)+1609587929392839161)=(u:Int)∧u<18446744073709551616∧Xx.t4 x n=u:=
 ⟨n * Xx.p1%18446744073709551616,x ^^^ (n * Xx.p1%18446744073709551616),Xx.turn (x ^^^ (n * Xx.p1%18446744073709551616)) 23 * Xx.p2%18446744073709551616,(Xx.turn (x ^^^ (n * Xx.p1%18446744073709551616)) 23 * Xx.p2%18446744073709551616+Xx.p3)%18446744073709551616,mulN n Xx.p1,xorN x _ hx (modW _),xorW hx (modW _),mulN _ Xx.p2,addN _ Xx.p3,modW _,rfl⟩
theorem t1_ex (hx:x<18446744073709551616) (c:UInt8):∃ q r u:Nat,IntKind.u64.wrap ((c.toNat:Int) * 2870177450012600261)=(q:Int)∧bits .xor .u64 (x:Int) (q:Int)=(r:Int)∧r<18446744073709551616∧IntKind.u64.wrap ((Xx.turn r 11:Nat) * (11400714785074694791:Int))=(u:Int)∧u<18446744073709551616∧Xx.t1 x c=u:=
 ⟨c.toNat * Xx.p5%18446744073709551616,x ^^^ (c.toNat * Xx.p5%18446744073709551616),Xx.turn (x ^^^ (c.toNat * Xx.p5%18446744073709551616)) 11 * Xx.p1%18446744073709551616,mulN _ Xx.p5,xorN x _ hx (modW _),xorW hx (modW _),mulN _ Xx.p1,modW _,rfl⟩
theorem join_ex (l:Xx.Ln):∃ s1 s2 x0:Nat,IntKind.u64.wrap ((Xx.turn l.a 1:Nat)+((Xx.turn l.b 7:Nat):Int))=(s1:Int)∧IntKind.u64.wrap ((s1:Int)+((Xx.turn l.c 12:Nat):Int))=(s2:Int)∧IntKind.u64.wrap ((s2:Int)+((Xx.turn l.d 18:Nat):Int))=(x0:Int)∧x0<18446744073709551616∧Xx.joined l=Xx.mix (Xx.mix (Xx.mix (Xx.mix x0 l.a) l.b) l.c) l.d:=
 ⟨_,_,_,addN _ _,addN _ _,addN _ _,modW _,rfl⟩
theorem fin_ex (hx:x<18446744073709551616):∃ t1 t2 t3 t4 t5:Nat,bits .xor .u64 (x:Int) ((x:Int) / 8589934592)=(t1:Int)∧IntKind.u64.wrap ((t1:Int) * 14029467366897019727)=(t2:Int)∧bits .xor .u64 (t2:Int) ((t2:Int) / 536870912)=(t3:Int)∧IntKind.u64.wrap ((t3:Int) * 1609587929392839161)=(t4:Int)∧bits .xor .u64 (t4:Int) ((t4:Int) / 4294967296)=(t5:Int)∧Xx.f3 (Xx.f2 (Xx.f1 x))=t5:=by
 have d:∀ (y k:Nat),y<18446744073709551616→y / k<18446744073709551616:=fun y k h=>Nat.lt_of_le_of_lt (Nat.div_le_self _ _) h
 exact ⟨x ^^^ (x / 8589934592),(x ^^^ (x / 8589934592)) * Xx.p2%18446744073709551616,Xx.f1 x ^^^ (Xx.f1 x / 536870912),(Xx.f1 x ^^^ (Xx.f1 x / 536870912)) * Xx.p3%18446744073709551616,Xx.f2 (Xx.f1 x) ^^^ (Xx.f2 (Xx.f1 x) / 4294967296),xorN x _ hx (d _ _ hx),mulN _ Xx.p2,xorN (Xx.f1 x) _ (modW _) (d _ _ (modW _)),mulN _ Xx.p3,xorN (Xx.f2 (Xx.f1 x)) _ (modW _) (d _ _ (modW _)),rfl⟩
theorem start_ex (j n:Nat):∃ x:Nat,IntKind.u64.wrap ((j:Int)+(n:Int))=(x:Int)∧x<18446744073709551616∧(j+n)%Xx.W=x:=⟨(j+n)%18446744073709551616,addN j n,modW _,rfl⟩
end
section
variable {w0 w:World}{F:List HProp}{v bv:Value}
theorem turn1_c (x:Nat) (hx:x<18446744073709551616) (h:Sat w0 w F):Calls Tryz.prog 205 #[.int .u64 x,.int .i64 1] w (Rtn fun v w'=>v = .int .u64 (Xx.turn x 1:Nat)∧Sat w0 w' F):=by
 have hf:=uQ (show Xx.turn x 1=(x * 2%18446744073709551616) ||| (x / 9223372036854775808) from rfl)
 have e1:IntKind.u64.wrap ((x:Int) * 2)=((x * 2%18446744073709551616:Nat):Int):=by rw [IntKind.wrap_u64];omega
 have e2:(x:Int) / 9223372036854775808=((x / 9223372036854775808:Nat):Int):=rfl
 have ha:x * 2%18446744073709551616<18446744073709551616:=Nat.mod_lt _ dCz
 have hb:x / 9223372036854775808<18446744073709551616:=Nat.lt_of_le_of_lt (Nat.div_le_self _ _) hx
 generalize x * 2%18446744073709551616=a at *
 generalize x / 9223372036854775808=b at *
 have e3:=orN a b ha hb
 have hS:=h.drew
 have e0:bits .and .i64 (1:Int) 63=1:=by decide
 have e00:wrap64 (64 - 1:Int)=63:=by rw [IntWalk.wrap64_in _ dCz];rfl
 clear ha hb h
 go_enter Tryz.func205,Tryz.ntmps205
 go_wp2_with fail
 go_region
 go_wp2
 go_ret
 exact ⟨_,rfl,by rw [hf.out];rfl,hS⟩
theorem turn7_c (x:Nat) (hx:x<18446744073709551616) (h:Sat w0 w F):Calls Tryz.prog 205 #[.int .u64 x,.int .i64 7] w (Rtn fun v w'=>v = .int .u64 (Xx.turn x 7:Nat)∧Sat w0 w' F):=by
 have hf:=uQ (show Xx.turn x 7=(x * 128%18446744073709551616) ||| (x / 144115188075855872) from rfl)
 have e1:IntKind.u64.wrap ((x:Int) * 128)=((x * 128%18446744073709551616:Nat):Int):=by rw [IntKind.wrap_u64];omega
 have e2:(x:Int) / 144115188075855872=((x / 144115188075855872:Nat):Int):=rfl
 have ha:x * 128%18446744073709551616<18446744073709551616:=Nat.mod_lt _ dCz
 have hb:x / 144115188075855872<18446744073709551616:=Nat.lt_of_le_of_lt (Nat.div_le_self _ _) hx
 generalize x * 128%18446744073709551616=a at *
 generalize x / 144115188075855872=b at *
 have e3:=orN a b ha hb
 have hS:=h.drew
 have e0:bits .and .i64 (7:Int) 63=7:=by decide
 have e00:wrap64 (64 - 7:Int)=57:=by rw [IntWalk.wrap64_in _ dCz];rfl
 clear ha hb h
 go_enter Tryz.func205,Tryz.ntmps205
 go_wp2_with fail
 go_region
 go_wp2
 go_ret
 exact ⟨_,rfl,by rw [hf.out];rfl,hS⟩
theorem turn11_c (x:Nat) (hx:x<18446744073709551616) (h:Sat w0 w F):Calls Tryz.prog 205 #[.int .u64 x,.int .i64 11] w (Rtn fun v w'=>v = .int .u64 (Xx.turn x 11:Nat)∧Sat w0 w' F):=by
 have hf:=uQ (show Xx.turn x 11=(x * 2048%18446744073709551616) ||| (x / 9007199254740992) from rfl)
 have e1:IntKind.u64.wrap ((x:Int) * 2048)=((x * 2048%18446744073709551616:Nat):Int):=by rw [IntKind.wrap_u64];omega
 have e2:(x:Int) / 9007199254740992=((x / 9007199254740992:Nat):Int):=rfl
 have ha:x * 2048%18446744073709551616<18446744073709551616:=Nat.mod_lt _ dCz
 have hb:x / 9007199254740992<18446744073709551616:=Nat.lt_of_le_of_lt (Nat.div_le_self _ _) hx
 generalize x * 2048%18446744073709551616=a at *
 generalize x / 9007199254740992=b at *
 have e3:=orN a b ha hb
 have hS:=h.drew
 have e0:bits .and .i64 (11:Int) 63=11:=by decide
 have e00:wrap64 (64 - 11:Int)=53:=by rw [IntWalk.wrap64_in _ dCz];rfl
 clear ha hb h
 go_enter Tryz.func205,Tryz.ntmps205
 go_wp2_with fail
 go_region
 go_wp2
 go_ret
 exact ⟨_,rfl,by rw [hf.out];rfl,hS⟩
theorem turn12_c (x:Nat) (hx:x<18446744073709551616) (h:Sat w0 w F):Calls Tryz.prog 205 #[.int .u64 x,.int .i64 12] w (Rtn fun v w'=>v = .int .u64 (Xx.turn x 12:Nat)∧Sat w0 w' F):=by
 have hf:=uQ (show Xx.turn x 12=(x * 4096%18446744073709551616) ||| (x / 4503599627370496) from rfl)
 have e1:IntKind.u64.wrap ((x:Int) * 4096)=((x * 4096%18446744073709551616:Nat):Int):=by rw [IntKind.wrap_u64];omega
 have e2:(x:Int) / 4503599627370496=((x / 4503599627370496:Nat):Int):=rfl
 have ha:x * 4096%18446744073709551616<18446744073709551616:=Nat.mod_lt _ dCz
 have hb:x / 4503599627370496<18446744073709551616:=Nat.lt_of_le_of_lt (Nat.div_le_self _ _) hx
 generalize x * 4096%18446744073709551616=a at *
 generalize x / 4503599627370496=b at *
 have e3:=orN a b ha hb
 have hS:=h.drew
 have e0:bits .and .i64 (12:Int) 63=12:=by decide
 have e00:wrap64 (64 - 12:Int)=52:=by rw [IntWalk.wrap64_in _ dCz];rfl
 clear ha hb h
 go_enter Tryz.func205,Tryz.ntmps205
 go_wp2_with fail
 go_region
 go_wp2
 go_ret
 exact ⟨_,rfl,by rw [hf.out];rfl,hS⟩
theorem turn18_c (x:Nat) (hx:x<18446744073709551616) (h:Sat w0 w F):Calls Tryz.prog 205 #[.int .u64 x,.int .i64 18] w (Rtn fun v w'=>v = .int .u64 (Xx.turn x 18:Nat)∧Sat w0 w' F):=by
 have hf:=uQ (show Xx.turn x 18=(x * 262144%18446744073709551616) ||| (x / 70368744177664) from rfl)
 have e1:IntKind.u64.wrap ((x:Int) * 262144)=((x * 262144%18446744073709551616:Nat):Int):=by rw [IntKind.wrap_u64];omega
 have e2:(x:Int) / 70368744177664=((x / 70368744177664:Nat):Int):=rfl
 have ha:x * 262144%18446744073709551616<18446744073709551616:=Nat.mod_lt _ dCz
 have hb:x / 70368744177664<18446744073709551616:=Nat.lt_of_le_of_lt (Nat.div_le_self _ _) hx
 generalize x * 262144%18446744073709551616=a at *
 generalize x / 70368744177664=b at *
 have e3:=orN a b ha hb
 have hS:=h.drew
 have e0:bits .and .i64 (18:Int) 63=18:=by decide
 have e00:wrap64 (64 - 18:Int)=46:=by rw [IntWalk.wrap64_in _ dCz];rfl
 clear ha hb h
 go_enter Tryz.func205,Tryz.ntmps205
 go_wp2_with fail
 go_region
 go_wp2
 go_ret
 exact ⟨_,rfl,by rw [hf.out];rfl,hS⟩
theorem turn23_c (x:Nat) (hx:x<18446744073709551616) (h:Sat w0 w F):Calls Tryz.prog 205 #[.int .u64 x,.int .i64 23] w (Rtn fun v w'=>v = .int .u64 (Xx.turn x 23:Nat)∧Sat w0 w' F):=by
 have hf:=uQ (show Xx.turn x 23=(x * 8388608%18446744073709551616) ||| (x / 2199023255552) from rfl)
 have e1:IntKind.u64.wrap ((x:Int) * 8388608)=((x * 8388608%18446744073709551616:Nat):Int):=by rw [IntKind.wrap_u64];omega
 have e2:(x:Int) / 2199023255552=((x / 2199023255552:Nat):Int):=rfl
 have ha:x * 8388608%18446744073709551616<18446744073709551616:=Nat.mod_lt _ dCz
 have hb:x / 2199023255552<18446744073709551616:=Nat.lt_of_le_of_lt (Nat.div_le_self _ _) hx
 generalize x * 8388608%18446744073709551616=a at *
 generalize x / 2199023255552=b at *
 have e3:=orN a b ha hb
 have hS:=h.drew
 have e0:bits .and .i64 (23:Int) 63=23:=by decide
 have e00:wrap64 (64 - 23:Int)=41:=by rw [IntWalk.wrap64_in _ dCz];rfl
 clear ha hb h
 go_enter Tryz.func205,Tryz.ntmps205
 go_wp2_with fail
 go_region
 go_wp2
 go_ret
 exact ⟨_,rfl,by rw [hf.out];rfl,hS⟩
theorem turn27_c (x:Nat) (hx:x<18446744073709551616) (h:Sat w0 w F):Calls Tryz.prog 205 #[.int .u64 x,.int .i64 27] w (Rtn fun v w'=>v = .int .u64 (Xx.turn x 27:Nat)∧Sat w0 w' F):=by
 have hf:=uQ (show Xx.turn x 27=(x * 134217728%18446744073709551616) ||| (x / 137438953472) from rfl)
 have e1:IntKind.u64.wrap ((x:Int) * 134217728)=((x * 134217728%18446744073709551616:Nat):Int):=by rw [IntKind.wrap_u64];omega
 have e2:(x:Int) / 137438953472=((x / 137438953472:Nat):Int):=rfl
 have ha:x * 134217728%18446744073709551616<18446744073709551616:=Nat.mod_lt _ dCz
 have hb:x / 137438953472<18446744073709551616:=Nat.lt_of_le_of_lt (Nat.div_le_self _ _) hx
 generalize x * 134217728%18446744073709551616=a at *
 generalize x / 137438953472=b at *
 have e3:=orN a b ha hb
 have hS:=h.drew
 have e0:bits .and .i64 (27:Int) 63=27:=by decide
 have e00:wrap64 (64 - 27:Int)=37:=by rw [IntWalk.wrap64_in _ dCz];rfl
 clear ha hb h
 go_enter Tryz.func205,Tryz.ntmps205
 go_wp2_with fail
 go_region
 go_wp2
 go_ret
 exact ⟨_,rfl,by rw [hf.out];rfl,hS⟩
theorem turn31_c (x:Nat) (hx:x<18446744073709551616) (h:Sat w0 w F):Calls Tryz.prog 205 #[.int .u64 x,.int .i64 31] w (Rtn fun v w'=>v = .int .u64 (Xx.turn x 31:Nat)∧Sat w0 w' F):=by
 have hf:=uQ (show Xx.turn x 31=(x * 2147483648%18446744073709551616) ||| (x / 8589934592) from rfl)
 have e1:IntKind.u64.wrap ((x:Int) * 2147483648)=((x * 2147483648%18446744073709551616:Nat):Int):=by rw [IntKind.wrap_u64];omega
 have e2:(x:Int) / 8589934592=((x / 8589934592:Nat):Int):=rfl
 have ha:x * 2147483648%18446744073709551616<18446744073709551616:=Nat.mod_lt _ dCz
 have hb:x / 8589934592<18446744073709551616:=Nat.lt_of_le_of_lt (Nat.div_le_self _ _) hx
 generalize x * 2147483648%18446744073709551616=a at *
 generalize x / 8589934592=b at *
 have e3:=orN a b ha hb
 have hS:=h.drew
 have e0:bits .and .i64 (31:Int) 63=31:=by decide
 have e00:wrap64 (64 - 31:Int)=33:=by rw [IntWalk.wrap64_in _ dCz];rfl
 clear ha hb h
 go_enter Tryz.func205,Tryz.ntmps205
 go_wp2_with fail
 go_region
 go_wp2
 go_ret
 exact ⟨_,rfl,by rw [hf.out];rfl,hS⟩
theorem lane_c (a x:Nat) (h:Sat w0 w F):Calls Tryz.prog 183 #[.int .u64 a,.int .u64 x] w (Rtn fun v w'=>v = .int .u64 (Xx.lane a x:Nat)∧Sat w0 w' F):=by
 obtain ⟨y,z,u,e1,e2,hz,e3,e4⟩:=lane_ex a x
 rw [e4]
 have ht:=turn31_c z hz h
 clear hz e4 h
 generalize Xx.turn z 31=t at *
 go_enter Tryz.func183,Tryz.ntmps183
 go_wp2_with fail
 refine ht.mono ?_
 rintro ee w1 ⟨v,rfl,rfl,hS⟩
 clear ht
 go_wp2
 go_ret
 exact ⟨_,rfl,rfl,hS⟩
end
structure RS (w0:World) (F:List HProp) (v:Value) (l:Bs):Prop where
 rd:Ro w0 F (rdsl 1 v (bys l))
 cap:capOk v
section
variable {w0 w:World}{F:List HProp}{v:Value}{l:Bs}{a:Option Addr}{n c k:Nat}
theorem sizeU8 (w:World):(sizeOf 5).run Tryz.prog w = .ok 1 w:=by kernel_rfl
theorem elemU8:Tryz.prog.elem 24=5:=by kernel_rfl
theorem undU8:Tryz.prog.underlying 24=some (.slice (Tryz.prog.elem 24)):=by rw [elemU8];exact Tryz.underlying24
theorem run_slF (hk:k≤n) (w:World):(Instr.sliceAt 24 (.slice a n c) (some (.int .i64 k)) none none).run Tryz.prog w = .ok (sliced a k n c 1) w:=by
 rw [run_sliceAt_slice _ _ _ _ _ _ undU8,run_slice_l _ _ _ _ _ undU8 .i64 (k:Int) oQ oQ,elemU8,sizeU8]
 simp [Result.andThen]
theorem run_slT (hk:k≤c) (w:World):(Instr.sliceAt 24 (.slice a n c) none (some (.int .i64 k)) none).run Tryz.prog w = .ok (sliced a 0 k c 1) w:=by
 rw [run_sliceAt_slice _ _ _ _ _ _ undU8,run_slice_h _ _ _ _ _ undU8 .i64 (k:Int) oQ oQ,elemU8,sizeU8]
 simp [Result.andThen]
theorem RS.len (h:RS w0 F v l) (hS:Sat w0 w F):∃ a c,v = .slice a l.length c∧l.length≤c∧c≤9223372036854775807:=by
 obtain ⟨a,n,c,rfl,h1,h2⟩:=h.cap
 obtain ⟨_,_,_,he,hl,_⟩:=h.rd w hS
 cases he
 rw [bys_len,Nat.mul_one]at hl
 subst hl
 exact ⟨a,c,rfl,h1,h2⟩
theorem bys_get {l:Bs}{j:Nat}{y:Value}:(bys l)[j]?=some y↔∃ u,l[j]?=some u∧y = .int .u8 u.toNat:=by
 unfold bys
 rw [List.getElem?_map,Option.map_eq_some_iff]
 constructor
 ·rintro ⟨u,h1,h2⟩;exact ⟨u,h1,h2.symm⟩
 ·rintro ⟨u,h1,h2⟩;exact ⟨u,h1,h2.symm⟩
theorem RS.from (h:RS w0 F (.slice a l.length c) l) (hk:k≤l.length):RS w0 F (sliced a k l.length c 1) (l.drop k):=by
 obtain ⟨a',n',c',he,h1,h2⟩:=h.cap
 cases he
 refine ⟨fun w hw=>?_,⟨_,_,_,rfl,by omega,by omega⟩⟩
 refine ⟨_,_,_,rfl,by rw [bys_len,List.length_drop,Nat.mul_one],fun j y hj=>?_⟩
 obtain ⟨u,hu,rfl⟩:=bys_get.1 hj
 rw [List.getElem?_drop]at hu
 have hlt:=(List.getElem?_eq_some_iff.1 hu).1
 obtain ⟨bk,off,rfl,hc⟩:=rdsl_cells (h.rd w hw) (bys_get.2 ⟨u,hu,rfl⟩)
 rw [if_neg oQ]
 refine ⟨_,rfl,?_⟩
 have:=hc (k+j) _ (bys_get.2 ⟨u,hu,rfl⟩)
 show w.cell? (((⟨bk,off,none⟩:Addr).add (k * 1)).add j)=_
 rw [Addr.add_mid,Addr.add_mid,Nat.mul_one,Nat.add_assoc];exact this
theorem RS.to (h:RS w0 F (.slice a l.length c) l) (hk:k≤l.length) (m:Nat) (hm:k≤m) (hmc:m≤c):RS w0 F (sliced a 0 k m 1) (l.take k):=by
 obtain ⟨a',n',c',he,h1,h2⟩:=h.cap
 cases he
 refine ⟨fun w hw=>?_,⟨_,_,_,rfl,by omega,by omega⟩⟩
 refine ⟨_,_,_,rfl,by rw [bys_len,List.length_take,Nat.mul_one];omega,fun j y hj=>?_⟩
 obtain ⟨u,hu,rfl⟩:=bys_get.1 hj
 rw [List.getElem?_take]at hu
 split at hu
 ·rename_i hjk
  obtain ⟨bk,off,rfl,hc⟩:=rdsl_cells (h.rd w hw) (bys_get.2 ⟨u,hu,rfl⟩)
  rw [if_neg oQ]
  refine ⟨_,rfl,?_⟩
  have:=hc j _ (bys_get.2 ⟨u,hu,rfl⟩)
  show w.cell? (((⟨bk,off,none⟩:Addr).add (0 * 1)).add j)=_
  rw [Addr.add_mid,Addr.add_mid,Nat.zero_mul,Nat.add_zero];exact this
 ·cases hu
theorem RS.of_bsl (h:Sat w0 w (bsl v l::F)):RS w0 (bsl v l::F) v l:=by
 obtain ⟨a,n,c,e,h1,h2,h3⟩:=bsl_cap' h
 exact ⟨Ro.bsl _ _,⟨a,n,c,e,h1,h2⟩⟩
theorem RS.more (h:RS w0 F v l){G:List HProp} (k:Sub G F):RS w0 G v l:=⟨Ro.of_sub h.rd k,h.cap⟩
end
section
variable {P:Program}{w:World}{ops:Array Oper}{rest:List Oper}{a:Act}{Q:Exit→Act→World→Prop}{dst:Option Tmp}{t ty:TypeId}{pos:String}{after:Array Edge}{x y z:Operand}{v vx vy vz:Value}
theorem wl_slF (hx:a.eval x=vx) (hy:a.eval y=vy) (hr:∀ w,(Instr.sliceAt ty vx (some vy) none none).run P w = .ok v w) (h:wpList P ops Q rest (a.put dst v) w):wpList P ops Q (⟨dst,.slice ty x (some y) none none,t,pos,after,none⟩::rest) a w:=
 wpList_plain rfl fun _ hK=>by
  unfold Oper.wp execOp
  simp only [hx,hy,Option.map_some,Option.map_none,Sem.run_bind,hr,Result.andThen_ok,Sem.run_pure]
  exact hK _ _ h
theorem wl_slT (hx:a.eval x=vx) (hy:a.eval y=vy) (hr:∀ w,(Instr.sliceAt ty vx none (some vy) none).run P w = .ok v w) (h:wpList P ops Q rest (a.put dst v) w):wpList P ops Q (⟨dst,.slice ty x none (some y) none,t,pos,after,none⟩::rest) a w:=
 wpList_plain rfl fun _ hK=>by
  unfold Oper.wp execOp
  simp only [hx,hy,Option.map_some,Option.map_none,Sem.run_bind,hr,Result.andThen_ok,Sem.run_pure]
  exact hK _ _ h
theorem at_slF (h:Stop (wpList P ops Q (⟨dst,.slice ty x (some y) none none,t,pos,after,none⟩::rest) a w)):wpList P ops Q (⟨dst,.slice ty x (some y) none none,t,pos,after,none⟩::rest) a w:=h.out
theorem at_slT (h:Stop (wpList P ops Q (⟨dst,.slice ty x none (some y) none,t,pos,after,none⟩::rest) a w)):wpList P ops Q (⟨dst,.slice ty x none (some y) none,t,pos,after,none⟩::rest) a w:=h.out
end
section
variable {w0 w:World}{F:List HProp}{v bv:Value}
theorem or_num8 (l:Bs) (c:UInt8) (k:Nat) (hl:l.length=k) (hk:k<8):bits .or .u64 ((Frm.num l:Nat):Int) ((c.toNat:Int) * ((256^k:Nat):Int))=((Frm.num (l++[c]):Nat):Int):=by
 subst hl
 have h1:=Frm.num_lt l
 have h2:=c.toNat_lt
 have h3:256^l.length≤256^7:=Nat.pow_le_pow_right dCz oQ
 have h4:c.toNat * 256^l.length≤255 * 256^7:=Nat.mul_le_mul oQ h3
 have h5:(256:Nat)^7=72057594037927936:=by decide
 have e:(c.toNat:Int) * ((256^l.length:Nat):Int)=((c.toNat * 256^l.length:Nat):Int):=by rw [Int.natCast_mul]
 rw [e,u64_or_nat _ _ oQ oQ,Frm.num_snoc]
 congr 1
 have hp:(256:Nat)^l.length=2^(8 * l.length):=by rw [Nat.pow_mul]
 rw [hp]at h1 ⊢
 have:=Nat.two_pow_add_eq_or_of_lt h1 c.toNat
 rw [Nat.or_comm,Nat.mul_comm c.toNat,← this,Nat.add_comm]
set_option maxRecDepth 20000 in
theorem get8_c (c0 c1 c2 c3 c4 c5 c6 c7:UInt8) (a:Option Addr) (c:Nat) (h:rdsl 1 (.slice a 8 c) (bys [c0,c1,c2,c3,c4,c5,c6,c7]) w) :
  Calls Tryz.prog 181 #[.slice a 8 c] w (Rtn fun v w'=>v = .tuple #[.int .u64 (Frm.num [c0,c1,c2,c3,c4,c5,c6,c7]:Nat),.bool true]∧w=w'):=by
 obtain ⟨bk,off,rfl,hc⟩:=rdsl_cells h (i:=0) rfl
 have e0:w.cell? ⟨bk,off,none⟩=some (.int .u8 c0.toNat):=hc 0 _ rfl
 have t0:=c0.toNat_lt
 have e1:w.cell? ⟨bk,off+1,none⟩=some (.int .u8 c1.toNat):=hc 1 _ rfl
 have t1:=c1.toNat_lt
 have e2:w.cell? ⟨bk,off+2,none⟩=some (.int .u8 c2.toNat):=hc 2 _ rfl
 have t2:=c2.toNat_lt
 have e3:w.cell? ⟨bk,off+3,none⟩=some (.int .u8 c3.toNat):=hc 3 _ rfl
 have t3:=c3.toNat_lt
 have e4:w.cell? ⟨bk,off+4,none⟩=some (.int .u8 c4.toNat):=hc 4 _ rfl
 have t4:=c4.toNat_lt
 have e5:w.cell? ⟨bk,off+5,none⟩=some (.int .u8 c5.toNat):=hc 5 _ rfl
 have t5:=c5.toNat_lt
 have e6:w.cell? ⟨bk,off+6,none⟩=some (.int .u8 c6.toNat):=hc 6 _ rfl
 have t6:=c6.toNat_lt
 have e7:w.cell? ⟨bk,off+7,none⟩=some (.int .u8 c7.toNat):=hc 7 _ rfl
 have t7:=c7.toNat_lt
 clear hc h
 go_enter Tryz.func181,Tryz.ntmps181
 go_wp2_with fail
 go_loopg [17,4] 8 (fun g iq xq wr=>∃ i:Nat,g=8 - i∧i≤8∧iq = .int .i64 i∧xq = .int .u64 (Frm.num ([c0,c1,c2,c3,c4,c5,c6,c7].take i):Nat)∧wr=w)
 case atStart=>exact ⟨0,rfl,by omega,rfl,rfl,rfl⟩
 case round=>
  obtain ⟨i,rfl,hi,rfl,rfl,rfl⟩:=hrel
  by_cases h4:i<8
  ·have h0:i=0∨i=1∨i=2∨i=3∨i=4∨i=5∨i=6∨i=7:=by omega
   clear hi h4
   rcases h0 with rfl|rfl|rfl|rfl|rfl|rfl|rfl|rfl
   ·have hq:bits .or .u64 ((Frm.num []:Nat):Int) (c0.toNat:Int)=((Frm.num [c0]:Nat):Int):=by
     have:=or_num8 [] c0 0 rfl dCz
     simpa using this
    go_wp2_with fail
    go_roundg (8 - 1)
    case measure=>decide
    case rel=>exact ⟨1,rfl,by decide,by first|rfl|go_num,rfl,rfl⟩
   ·have hq:bits .or .u64 ((Frm.num [c0]:Nat):Int) ((c1.toNat:Int) * 256)=((Frm.num [c0,c1]:Nat):Int):=or_num8 [c0] c1 1 rfl dCz
    go_wp2_with fail
    go_roundg (8 - 2)
    case measure=>decide
    case rel=>exact ⟨2,rfl,by decide,by first|rfl|go_num,rfl,rfl⟩
   ·have hq:bits .or .u64 ((Frm.num [c0,c1]:Nat):Int) ((c2.toNat:Int) * 65536)=((Frm.num [c0,c1,c2]:Nat):Int):=or_num8 [c0,c1] c2 2 rfl dCz
    go_wp2_with fail
    go_roundg (8 - 3)
    case measure=>decide
    case rel=>exact ⟨3,rfl,by decide,by first|rfl|go_num,rfl,rfl⟩
   ·have hq:bits .or .u64 ((Frm.num [c0,c1,c2]:Nat):Int) ((c3.toNat:Int) * 16777216)=((Frm.num [c0,c1,c2,c3]:Nat):Int):=or_num8 [c0,c1,c2] c3 3 rfl dCz
    go_wp2_with fail
    go_roundg (8 - 4)
    case measure=>decide
    case rel=>exact ⟨4,rfl,by decide,by first|rfl|go_num,rfl,rfl⟩
   ·have hq:bits .or .u64 ((Frm.num [c0,c1,c2,c3]:Nat):Int) ((c4.toNat:Int) * 4294967296)=((Frm.num [c0,c1,c2,c3,c4]:Nat):Int):=or_num8 [c0,c1,c2,c3] c4 4 rfl dCz
    go_wp2_with fail
    go_roundg (8 - 5)
    case measure=>decide
    case rel=>exact ⟨5,rfl,by decide,by first|rfl|go_num,rfl,rfl⟩
   ·have hq:bits .or .u64 ((Frm.num [c0,c1,c2,c3,c4]:Nat):Int) ((c5.toNat:Int) * 1099511627776)=((Frm.num [c0,c1,c2,c3,c4,c5]:Nat):Int):=or_num8 [c0,c1,c2,c3,c4] c5 5 rfl dCz
    go_wp2_with fail
    go_roundg (8 - 6)
    case measure=>decide
    case rel=>exact ⟨6,rfl,by decide,by first|rfl|go_num,rfl,rfl⟩
   ·have hq:bits .or .u64 ((Frm.num [c0,c1,c2,c3,c4,c5]:Nat):Int) ((c6.toNat:Int) * 281474976710656)=((Frm.num [c0,c1,c2,c3,c4,c5,c6]:Nat):Int):=or_num8 [c0,c1,c2,c3,c4,c5] c6 6 rfl dCz
    go_wp2_with fail
    go_roundg (8 - 7)
    case measure=>decide
    case rel=>exact ⟨7,rfl,by decide,by first|rfl|go_num,rfl,rfl⟩
   ·have hq:bits .or .u64 ((Frm.num [c0,c1,c2,c3,c4,c5,c6]:Nat):Int) ((c7.toNat:Int) * 72057594037927936)=((Frm.num [c0,c1,c2,c3,c4,c5,c6,c7]:Nat):Int):=or_num8 [c0,c1,c2,c3,c4,c5,c6] c7 7 rfl dCz
    go_wp2_with fail
    go_roundg (8 - 8)
    case measure=>decide
    case rel=>exact ⟨8,rfl,by decide,by first|rfl|go_num,rfl,rfl⟩
  ·obtain rfl:i=8:=by omega
   go_wp2
   go_ret2
   exact ⟨_,rfl,rfl,rfl⟩
theorem eight {l:Bs} (h:l.length=8):∃ c0 c1 c2 c3 c4 c5 c6 c7,l=[c0,c1,c2,c3,c4,c5,c6,c7]:=by
 match l,h with
 |[c0,c1,c2,c3,c4,c5,c6,c7],_=>exact ⟨c0,c1,c2,c3,c4,c5,c6,c7,rfl⟩
theorem get8_l (l:Bs) (hl:l.length=8) (a:Option Addr) (c:Nat) (h:rdsl 1 (.slice a 8 c) (bys l) w) :
  Calls Tryz.prog 181 #[.slice a 8 c] w (Rtn fun v w'=>v = .tuple #[.int .u64 (Frm.num l:Nat),.bool true]∧w=w'):=by
 obtain ⟨c0,c1,c2,c3,c4,c5,c6,c7,rfl⟩:=eight hl
 exact get8_c c0 c1 c2 c3 c4 c5 c6 c7 a c h
theorem word_c (l:Bs) (hl:8≤l.length) (hr:RS w0 F bv l) (h:Sat w0 w F) :
  Calls Tryz.prog 184 #[bv] w (Rtn fun v w'=>v = .int .u64 (Frm.num (l.take 8):Nat)∧w=w'):=by
 obtain ⟨a,c,rfl,h1,h2⟩:=hr.len h
 have ht:=(hr.to hl c oQ (Nat.le_refl c)).rd w h
 have hs:sliced a 0 8 c 1 = .slice (if c=0 then a else a.map (·.add (0 * 1))) 8 c:=rfl
 rw [hs]at ht
 have hg:=get8_l (l.take 8) (by rw [List.length_take];omega) _ c ht
 have hrun:∀ w,(Instr.sliceAt 24 (.slice a l.length c) none (some (.int .i64 8)) none).run Tryz.prog w = .ok (.slice (if c=0 then a else a.map (·.add (0 * 1))) 8 c) w:=fun w=>run_slT (k:=8) oQ w
 generalize (if c=0 then a else a.map (·.add (0 * 1)))=a2 at *
 generalize Frm.num (l.take 8)=N at *
 clear ht hs
 go_enter Tryz.func184,Tryz.ntmps184
 go_wp2_with ((with_reducible refine at_slT ⟨?_⟩);refine wl_slT rFz rFz hrun ?_)
 refine hg.mono ?_
 rintro e w1 ⟨v,rfl,rfl,rfl⟩
 go_wp2
 go_ret
 exact ⟨_,rfl,rfl,rfl⟩
set_option maxRecDepth 20000 in
theorem put8_c (x:Nat) (hx:x<18446744073709551616) (h:Sat w0 w F) :
  Calls Tryz.prog 75 #[.int .u64 x,.int .i64 8] w (Rtn fun v w'=>Sat w0 w' (bsl v (Frm.le x 8)::F)∧∃ a,v = .slice a 8 8):=by
 have Hx:=uQ hx
 clear hx
 have hmk:∀ w,(Instr.makeSlice 24 (.int .i64 8) (.int .i64 8)).run Tryz.prog w = .ok (.slice (some ⟨w.heap.size,0,none⟩) 8 8) (w.alloc (.cells #[.int .u8 0,.int .u8 0,.int .u8 0,.int .u8 0,.int .u8 0,.int .u8 0,.int .u8 0,.int .u8 0] 5)):=fun w=>by kernel_rfl
 go_enter Tryz.func75,Tryz.ntmps75
 go_wp2_with fail
 have hA:=h.alloc (.cells #[.int .u8 0,.int .u8 0,.int .u8 0,.int .u8 0,.int .u8 0,.int .u8 0,.int .u8 0,.int .u8 0] 5)
 have hB:Sat w0 (w.alloc (.cells #[.int .u8 0,.int .u8 0,.int .u8 0,.int .u8 0,.int .u8 0,.int .u8 0,.int .u8 0,.int .u8 0] 5)) (bsl (.slice (some ⟨w.heap.size,0,none⟩) 8 8) [0,0,0,0,0,0,0,0]::F):=Sat.osl_of_pt hA rfl (Nat.le_refl _) (Nat.le_refl _) (by unfold maxLen;omega) rfl
 obtain ⟨b0,b1,b2,b3,b4,b5,b6,b7,hb0,hb1,hb2,hb3,hb4,hb5,hb6,hb7,hle⟩:∃ b0 b1 b2 b3 b4 b5 b6 b7:UInt8,(x:Int)%256=b0.toNat∧(x:Int) / 256%256=b1.toNat∧(x:Int) / 65536%256=b2.toNat∧(x:Int) / 16777216%256=b3.toNat∧(x:Int) / 4294967296%256=b4.toNat∧(x:Int) / 1099511627776%256=b5.toNat∧(x:Int) / 281474976710656%256=b6.toNat∧(x:Int) / 72057594037927936%256=b7.toNat∧Frm.le x 8=[b0,b1,b2,b3,b4,b5,b6,b7]:=by
  refine ⟨_,_,_,_,_,_,_,_,?_,?_,?_,?_,?_,?_,?_,?_,rfl⟩
  all_goals (rw [UInt8.toNat_ofNat'];omega)
 have Hle:=uQ hle
 clear hle hmk hA
 generalize w.heap.size=q at *
 go_loopg [17] 8 (fun g iq wr=>∃ (i:Nat) (l':Bs),g=8 - i∧i≤8∧iq = .int .i64 i∧l'=(match i with|0=>[0,0,0,0,0,0,0,0]|1=>[b0,0,0,0,0,0,0,0]|2=>[b0,b1,0,0,0,0,0,0]|3=>[b0,b1,b2,0,0,0,0,0]|4=>[b0,b1,b2,b3,0,0,0,0]|5=>[b0,b1,b2,b3,b4,0,0,0]|6=>[b0,b1,b2,b3,b4,b5,0,0]|7=>[b0,b1,b2,b3,b4,b5,b6,0]|_=>[b0,b1,b2,b3,b4,b5,b6,b7])∧Sat w0 wr (bsl (.slice (some ⟨q,0,none⟩) 8 8) l'::F))
 case atStart=>exact ⟨0,_,rfl,by omega,rfl,rfl,hB⟩
 case round=>
  obtain ⟨i,l',rfl,hi,rfl,hl',hS⟩:=hrel
  clear hB
  obtain rfl|rfl|rfl|rfl|rfl|rfl|rfl|rfl|rfl:i=0∨i=1∨i=2∨i=3∨i=4∨i=5∨i=6∨i=7∨i=8:=by omega
  ·obtain rfl:l'=[0,0,0,0,0,0,0,0]:=hl'
   obtain ⟨g,he,e0,e1,hS5⟩:=bsl_set (i:=0) hS (by simp) b0
   cases he
   go_wp2_with fail
   go_roundg 7
   case measure=>omega
   case rel=>exact ⟨1,[b0,0,0,0,0,0,0,0],rfl,by omega,rfl,rfl,hS5⟩
  ·obtain rfl:l'=[b0,0,0,0,0,0,0,0]:=hl'
   obtain ⟨g,he,e0,e1,hS5⟩:=bsl_set (i:=1) hS (by simp) b1
   cases he
   go_wp2_with fail
   go_roundg 6
   case measure=>omega
   case rel=>exact ⟨2,[b0,b1,0,0,0,0,0,0],rfl,by omega,rfl,rfl,hS5⟩
  ·obtain rfl:l'=[b0,b1,0,0,0,0,0,0]:=hl'
   obtain ⟨g,he,e0,e1,hS5⟩:=bsl_set (i:=2) hS (by simp) b2
   cases he
   go_wp2_with fail
   go_roundg 5
   case measure=>omega
   case rel=>exact ⟨3,[b0,b1,b2,0,0,0,0,0],rfl,by omega,rfl,rfl,hS5⟩
  ·obtain rfl:l'=[b0,b1,b2,0,0,0,0,0]:=hl'
   obtain ⟨g,he,e0,e1,hS5⟩:=bsl_set (i:=3) hS (by simp) b3
   cases he
   go_wp2_with fail
   go_roundg 4
   case measure=>omega
   case rel=>exact ⟨4,[b0,b1,b2,b3,0,0,0,0],rfl,by omega,rfl,rfl,hS5⟩
  ·obtain rfl:l'=[b0,b1,b2,b3,0,0,0,0]:=hl'
   obtain ⟨g,he,e0,e1,hS5⟩:=bsl_set (i:=4) hS (by simp) b4
   cases he
   go_wp2_with fail
   go_roundg 3
   case measure=>omega
   case rel=>exact ⟨5,[b0,b1,b2,b3,b4,0,0,0],rfl,by omega,rfl,rfl,hS5⟩
  ·obtain rfl:l'=[b0,b1,b2,b3,b4,0,0,0]:=hl'
   obtain ⟨g,he,e0,e1,hS5⟩:=bsl_set (i:=5) hS (by simp) b5
   cases he
   go_wp2_with fail
   go_roundg 2
   case measure=>omega
   case rel=>exact ⟨6,[b0,b1,b2,b3,b4,b5,0,0],rfl,by omega,rfl,rfl,hS5⟩
  ·obtain rfl:l'=[b0,b1,b2,b3,b4,b5,0,0]:=hl'
   obtain ⟨g,he,e0,e1,hS5⟩:=bsl_set (i:=6) hS (by simp) b6
   cases he
   go_wp2_with fail
   go_roundg 1
   case measure=>omega
   case rel=>exact ⟨7,[b0,b1,b2,b3,b4,b5,b6,0],rfl,by omega,rfl,rfl,hS5⟩
  ·obtain rfl:l'=[b0,b1,b2,b3,b4,b5,b6,0]:=hl'
   obtain ⟨g,he,e0,e1,hS5⟩:=bsl_set (i:=7) hS (by simp) b7
   cases he
   go_wp2_with fail
   go_roundg 0
   case measure=>omega
   case rel=>exact ⟨8,[b0,b1,b2,b3,b4,b5,b6,b7],rfl,by omega,rfl,rfl,hS5⟩
  ·obtain rfl:l'=[b0,b1,b2,b3,b4,b5,b6,b7]:=hl'
   go_wp2
   go_ret
   exact ⟨_,rfl,by rw [Hle.out];exact hS,_,rfl⟩
end
section
variable {P:Program}{w0 w:World}{L:List HProp}{ops:Array Oper}{rest:List Oper}{a:Act}{Q:Exit→Act→World→Prop}{dst:Option Tmp}{t ty e:TypeId}{pos:String}{after:Array Edge}{x y:Operand}{g:Nat×Bool}{op:Op}{sz by' n:Nat}{v:Value}{zs:List Value}
theorem ug_op (hw:Region.wanted ⟨dst,op,t,pos,after,some g⟩ (yielded ops a.tmps)=true) (h:wpList P ops Q (⟨dst,op,t,pos,after,none⟩::rest) a w):wpList P ops Q (⟨dst,op,t,pos,after,some g⟩::rest) a w:=by
 unfold wpList at h ⊢
 rw [if_pos hw]
 rw [if_pos (want_none _ rfl)]at h
 exact h
theorem ug_build {xs:Array (Nat×Operand)} (h:Stop (wpList P ops Q (⟨dst,.build ty xs,t,pos,after,some g⟩::rest) a w)):wpList P ops Q (⟨dst,.build ty xs,t,pos,after,some g⟩::rest) a w:=h.out
theorem ug_load (h:Stop (wpList P ops Q (⟨dst,.load ty x,t,pos,after,some g⟩::rest) a w)):wpList P ops Q (⟨dst,.load ty x,t,pos,after,some g⟩::rest) a w:=h.out
theorem ug_at_build {xs:Array (Nat×Operand)} (h:Stop (wpList P ops Q (⟨dst,.build ty xs,t,pos,after,none⟩::rest) a w)):wpList P ops Q (⟨dst,.build ty xs,t,pos,after,none⟩::rest) a w:=h.out
theorem wl_bld {xs:Array (Nat×Operand)}{ps:Array (Nat×Value)} (h1:xs.map (fun p=>(p.1,a.eval p.2))=ps) (hr:∀ w,(Instr.build ty ps).run P w = .ok v w) (h:wpList P ops Q rest (a.put dst v) w) :
  wpList P ops Q (⟨dst,.build ty xs,t,pos,after,none⟩::rest) a w:=
 wpList_plain rfl fun _ hK=>by
  unfold Oper.wp execOp
  simp only [h1,Sem.run_bind,hr,Result.andThen_ok,Sem.run_pure]
  exact hK _ _ h
end
abbrev hshPt (p:Nat) (l:Xx.Ln) (rv:Value) (n:Nat):HProp:=pt p (.cells #[.bool true,.int .u64 0,.int .u64 l.a,.int .u64 l.b,.int .u64 l.c,.int .u64 l.d,rv,.int .u64 n] 281 (0,0))
section
variable {w0 w:World}{F:List HProp}{v bv rv:Value}{p n:Nat}{l:Xx.Ln}
theorem zArr4:zeroB Tryz.prog 279=some (.agg #[.int .u64 0,.int .u64 0,.int .u64 0,.int .u64 0]):=by kernel_rfl
theorem newh_c (h:Sat w0 w F):Calls Tryz.prog 162 #[.int .u64 0] w (Rtn fun v w'=>∃ p,v=ptr p∧Sat w0 w' (hshPt p Xx.Ln.zero (.slice none 0 0) 0::F)):=by
 have hb1:∀ w,(Instr.build 281 #[(0,.bool true),(1,.int .u64 0)]).run Tryz.prog w = .ok (.agg #[.bool true,.int .u64 0,.int .u64 0,.int .u64 0,.int .u64 0,.int .u64 0,.slice none 0 0,.int .u64 0]) w:=fun w=>by kernel_rfl
 have hb2:∀ w,(Instr.build 279 #[(0,.int .u64 6983438078262162902),(1,.int .u64 14029467366897019727),(2,.int .u64 0),(3,.int .u64 7046029288634856825)]).run Tryz.prog w = .ok (.agg #[.int .u64 6983438078262162902,.int .u64 14029467366897019727,.int .u64 0,.int .u64 7046029288634856825]) w:=fun w=>by kernel_rfl
 go_enter Tryz.func162,Tryz.ntmps162
 go_wp2_with (first
  |((with_reducible refine at_box ⟨?_⟩);refine wl_box h rFz rFz ?_;intro bB wB hB)
  |((with_reducible refine at_store ⟨?_⟩);refine wl_store (v:= .agg #[.int .u64 6983438078262162902,.int .u64 14029467366897019727,.int .u64 0,.int .u64 7046029288634856825]) hB rFz rFz rFz upd0 dCz kRz rFz ?_;intro wS hS))
 go_ret
 exact ⟨_,rfl,bB,rfl,hS⟩
set_option maxRecDepth 20000 in
theorem joined_c (hl:l.lt) (h:Sat w0 w (hshPt p l rv n::F)):Calls Tryz.prog 185 #[ptr p] w (Rtn fun v w'=>v = .int .u64 (Xx.joined l:Nat)∧Sat w0 w' (hshPt p l rv n::F)):=by
 obtain ⟨la,lb,lc,ld⟩:=l
 obtain ⟨l1,l2,l3,l4⟩:=hl
 simp only at l1 l2 l3 l4
 obtain ⟨s1,s2,x0,f1,f2,f3,q5,hJ⟩:=join_ex ⟨la,lb,lc,ld⟩
 simp only at f1 f2 f3 hJ
 have HJ:=uQ hJ
 have Ht1:=uQ (fun (w:World) (R:List HProp) (hS:Sat w0 w R)=>turn1_c la l1 hS)
 have Ht2:=uQ (fun (w:World) (R:List HProp) (hS:Sat w0 w R)=>turn7_c lb l2 hS)
 have Ht3:=uQ (fun (w:World) (R:List HProp) (hS:Sat w0 w R)=>turn12_c lc l3 hS)
 have Ht4:=uQ (fun (w:World) (R:List HProp) (hS:Sat w0 w R)=>turn18_c ld l4 hS)
 generalize Xx.turn la 1=ta at *
 generalize Xx.turn lb 7=tb at *
 generalize Xx.turn lc 12=tc at *
 generalize Xx.turn ld 18=td at *
 have Hq:=uQ q5
 have Hf:=uQ (And.intro f1 (And.intro f2 f3))
 clear l1 l2 l3 l4 q5 f1 f2 f3 hJ
 go_enter Tryz.func185,Tryz.ntmps185
 go_wp2_with (first
  |((with_reducible refine at_load ⟨?_⟩);refine wl_loadN (b:=p) (o:=2) [.int .u64 la,.int .u64 lb,.int .u64 lc,.int .u64 ld] h rFz pick0 (fun j v hj=>by
    rcases j with _|_|_|_|j
    ·cases hj;rfl
    ·cases hj;rfl
    ·cases hj;rfl
    ·cases hj;rfl
    ·simp at hj) Tryz.underlying279 rfl kRz ?_)
  |((with_reducible refine at_alloc ⟨?_⟩);refine wl_alloc zArr4 h rfl ?_;intro b3 w3 h3)
  |((with_reducible refine at_store ⟨?_⟩);refine wl_storeA #[.int .u64 la,.int .u64 lb,.int .u64 lc,.int .u64 ld] h3 rFz rFz rFz upd0 kRz rFz ?_;intro w4 h4))
 have hS:=h4.drew
 clear h h3 h4
 refine wpL_begin [13,14,15] (fun w'=>w'.cell? ⟨b3,0,none⟩=some (.int .u64 la)∧w'.cell? ⟨b3,1,none⟩=some (.int .u64 lb)∧w'.cell? ⟨b3,2,none⟩=some (.int .u64 lc)∧w'.cell? ⟨b3,3,none⟩=some (.int .u64 ld)) kRz ?_
 have HG:=uQ (fun (w:World) (R:List HProp) (hS:Sat w0 w (pt b3 (.cells #[.int .u64 la,.int .u64 lb,.int .u64 lc,.int .u64 ld] 279 (0,0))::R))=>show w.cell? ⟨b3,0,none⟩=some (.int .u64 la)∧w.cell? ⟨b3,1,none⟩=some (.int .u64 lb)∧w.cell? ⟨b3,2,none⟩=some (.int .u64 lc)∧w.cell? ⟨b3,3,none⟩=some (.int .u64 ld) from ⟨hS.cellAt 0 _ rfl,hS.cellAt 1 _ rfl,hS.cellAt 2 _ rfl,hS.cellAt 3 _ rfl⟩)
 have hG:=HG.out _ _ hS
 refine rP 0 ?_ (y:=ixQ)
 refine rt 1 (h:=?_)
 refine rP 3 ?_ (y:=ixQ)
 refine rt 4 (h:=?_)
 refine rP 7 ?_ (y:=ixQ)
 refine rt 8 (h:=?_)
 refine rP 11 ?_ (y:=ixQ)
 refine rt 12 (h:=?_)
 clear hG
 refine rg_eff 2 evD kRz (fun K hK=>?_)
 (refine eff_call2 kRz evD evD ?_)
 refine (Ht1.out _ _ hS).mono ?_
 rintro ee w5 ⟨v,rfl,rfl,h5⟩
 refine hK _ _ (.inr (.inl (HG.out _ _ h5))) ?_
 clear hK hS
 refine rg_eff 5 evD kRz (fun K hK=>?_)
 (refine eff_call2 kRz evD evD ?_)
 refine (Ht2.out _ _ h5).mono ?_
 rintro ee w6 ⟨v,rfl,rfl,h6⟩
 refine hK _ _ (.inr (.inl (HG.out _ _ h6))) ?_
 clear hK h5
 refine rp 6 (hy:=(yl_bin evD evD (by intro wq;have f1:=Hf.out.1;(go_simp);first|done|exact wQ))) (h:=?_)
 refine rg_eff 9 evD kRz (fun K hK=>?_)
 (refine eff_call2 kRz evD evD ?_)
 refine (Ht3.out _ _ h6).mono ?_
 rintro ee w7 ⟨v,rfl,rfl,h7⟩
 refine hK _ _ (.inr (.inl (HG.out _ _ h7))) ?_
 clear hK h6
 refine rp 10 (hy:=(yl_bin evD evD (by intro wq;have f2:=Hf.out.2.1;(go_simp);first|done|exact wQ))) (h:=?_)
 refine rg_eff 13 evD kRz (fun K hK=>?_)
 (refine eff_call2 kRz evD evD ?_)
 refine (Ht4.out _ _ h7).mono ?_
 rintro ee w8 ⟨v,rfl,rfl,h8⟩
 refine hK _ _ (.inl rfl) ?_
 clear hK h7
 refine rp 14 (hy:=(yl_bin evD evD (by intro wq;have f3:=Hf.out.2.2;(go_simp);first|done|exact wQ))) (h:=?_)
 refine rP 15 ?_ (y:=asQ)
 refine wpL_done kRz ?_
 try simp only [ayQ]
 try go_frame
 clear Ht1 Ht2 Ht3 Ht4 HG Hf
 as_aux_lemma=>
  go_wp2_with ((with_reducible refine at_load ⟨?_⟩);refine wl_loadA h8 rFz pick0 Tryz.underlying279 rfl kRz ?_)
  go_loopg [27,4] 4 (fun g iq xq wr=>∃ (i x:Nat),g=4 - i∧i≤4∧iq = .int .i64 i∧xq = .int .u64 (x:Nat)∧x<18446744073709551616∧((i=0→x=x0)∧(i=1→x=Xx.mix x0 la)∧(i=2→x=Xx.mix (Xx.mix x0 la) lb)∧(i=3→x=Xx.mix (Xx.mix (Xx.mix x0 la) lb) lc)∧(i=4→x=Xx.mix (Xx.mix (Xx.mix (Xx.mix x0 la) lb) lc) ld))∧Sat w0 wr (pt b3 (.cells #[.int .u64 la,.int .u64 lb,.int .u64 lc,.int .u64 ld] 279 (0,0))::hshPt p ⟨la,lb,lc,ld⟩ rv n::F))
  case atStart=>exact ⟨0,x0,rfl,by decide,rfl,rfl,Hq.out,⟨fun _=>rfl,fun h=>absurd h dCz,fun h=>absurd h dCz,fun h=>absurd h dCz,fun h=>absurd h dCz⟩,h8⟩
  case round=>
   obtain ⟨i,x,rfl,hi,rfl,rfl,hx,hxe,hS⟩:=hrel
   clear h8
   obtain rfl|rfl|rfl|rfl|rfl:i=0∨i=1∨i=2∨i=3∨i=4:=by omega
   ·as_aux_lemma=>
    have hlc:Calls Tryz.prog 183 #[.int .u64 0,.int .u64 la] wr (Rtn fun v w'=>v = .int .u64 (Xx.lane 0 la:Nat)∧Sat w0 w' _):=lane_c 0 la hS
    have hix:∀ w,(Instr.index 279 (.agg #[.int .u64 la,.int .u64 lb,.int .u64 lc,.int .u64 ld]) (.int .i64 0)).run Tryz.prog w = .ok (.int .u64 la) w:=fun w=>by kernel_rfl
    obtain ⟨y,z,u,g1,g2,g3,hu,hm⟩:=mix_ex hx la
    generalize Xx.lane 0 la=t at *
    have Hu:=uQ hu;have Hmm:=uQ hm;have Hxe:=uQ (hxe.1 rfl)
    clear hx hm hu hxe hS
    go_wp2_with fail
    refine hlc.mono ?_
    rintro ee w9 ⟨v,rfl,rfl,h9⟩
    clear hlc
    go_wp2
    go_roundg 3
    case measure=>omega
    case rel=>exact ⟨1,u,rfl,by decide,rfl,rfl,Hu.out,⟨fun h=>absurd h dCz,fun _=>by rw [← Hmm.out,Hxe.out],fun h=>absurd h dCz,fun h=>absurd h dCz,fun h=>absurd h dCz⟩,h9⟩
   ·as_aux_lemma=>
    have hlc:Calls Tryz.prog 183 #[.int .u64 0,.int .u64 lb] wr (Rtn fun v w'=>v = .int .u64 (Xx.lane 0 lb:Nat)∧Sat w0 w' _):=lane_c 0 lb hS
    have hix:∀ w,(Instr.index 279 (.agg #[.int .u64 la,.int .u64 lb,.int .u64 lc,.int .u64 ld]) (.int .i64 1)).run Tryz.prog w = .ok (.int .u64 lb) w:=fun w=>by kernel_rfl
    obtain ⟨y,z,u,g1,g2,g3,hu,hm⟩:=mix_ex hx lb
    generalize Xx.lane 0 lb=t at *
    have Hu:=uQ hu;have Hmm:=uQ hm;have Hxe:=uQ (hxe.2.1 rfl)
    clear hx hm hu hxe hS
    go_wp2_with fail
    refine hlc.mono ?_
    rintro ee w9 ⟨v,rfl,rfl,h9⟩
    clear hlc
    go_wp2
    go_roundg 2
    case measure=>omega
    case rel=>exact ⟨2,u,rfl,by decide,rfl,rfl,Hu.out,⟨fun h=>absurd h dCz,fun h=>absurd h dCz,fun _=>by rw [← Hmm.out,Hxe.out],fun h=>absurd h dCz,fun h=>absurd h dCz⟩,h9⟩
   ·as_aux_lemma=>
    have hlc:Calls Tryz.prog 183 #[.int .u64 0,.int .u64 lc] wr (Rtn fun v w'=>v = .int .u64 (Xx.lane 0 lc:Nat)∧Sat w0 w' _):=lane_c 0 lc hS
    have hix:∀ w,(Instr.index 279 (.agg #[.int .u64 la,.int .u64 lb,.int .u64 lc,.int .u64 ld]) (.int .i64 2)).run Tryz.prog w = .ok (.int .u64 lc) w:=fun w=>by kernel_rfl
    obtain ⟨y,z,u,g1,g2,g3,hu,hm⟩:=mix_ex hx lc
    generalize Xx.lane 0 lc=t at *
    have Hu:=uQ hu;have Hmm:=uQ hm;have Hxe:=uQ (hxe.2.2.1 rfl)
    clear hx hm hu hxe hS
    go_wp2_with fail
    refine hlc.mono ?_
    rintro ee w9 ⟨v,rfl,rfl,h9⟩
    clear hlc
    go_wp2
    go_roundg 1
    case measure=>omega
    case rel=>exact ⟨3,u,rfl,by decide,rfl,rfl,Hu.out,⟨fun h=>absurd h dCz,fun h=>absurd h dCz,fun h=>absurd h dCz,fun _=>by rw [← Hmm.out,Hxe.out],fun h=>absurd h dCz⟩,h9⟩
   ·as_aux_lemma=>
    have hlc:Calls Tryz.prog 183 #[.int .u64 0,.int .u64 ld] wr (Rtn fun v w'=>v = .int .u64 (Xx.lane 0 ld:Nat)∧Sat w0 w' _):=lane_c 0 ld hS
    have hix:∀ w,(Instr.index 279 (.agg #[.int .u64 la,.int .u64 lb,.int .u64 lc,.int .u64 ld]) (.int .i64 3)).run Tryz.prog w = .ok (.int .u64 ld) w:=fun w=>by kernel_rfl
    obtain ⟨y,z,u,g1,g2,g3,hu,hm⟩:=mix_ex hx ld
    generalize Xx.lane 0 ld=t at *
    have Hu:=uQ hu;have Hmm:=uQ hm;have Hxe:=uQ (hxe.2.2.2.1 rfl)
    clear hx hm hu hxe hS
    go_wp2_with fail
    refine hlc.mono ?_
    rintro ee w9 ⟨v,rfl,rfl,h9⟩
    clear hlc
    go_wp2
    go_roundg 0
    case measure=>omega
    case rel=>exact ⟨4,u,rfl,by decide,rfl,rfl,Hu.out,⟨fun h=>absurd h dCz,fun h=>absurd h dCz,fun h=>absurd h dCz,fun h=>absurd h dCz,fun _=>by rw [← Hmm.out,Hxe.out]⟩,h9⟩
   ·have Hx:=uQ (show x=Xx.joined ⟨la,lb,lc,ld⟩ by rw [HJ.out];exact hxe.2.2.2.2 rfl)
    clear hxe hx
    go_wp2
    go_ret
    exact ⟨_,rfl,by rw [Hx.out];rfl,hS.drop⟩
end
section
variable {w0 w:World}{F:List HProp}{v bv rv:Value}{p n:Nat}{l:Bs}
theorem get4_r (l:Bs) (hl:l.length=4) (a:Option Addr) (c:Nat) (h:rdsl 1 (.slice a 4 c) (bys l) w) :
  Calls Tryz.prog 181 #[.slice a 4 c] w (Rtn fun v w'=>v = .tuple #[.int .u64 (Frm.num l:Nat),.bool true]∧w=w'):=get4_l l hl a c h
theorem lane0_c (x:Nat) (h:Sat w0 w F):Calls Tryz.prog 183 #[.int .u64 0,.int .u64 x] w (Rtn fun v w'=>v = .int .u64 (Xx.lane 0 x:Nat)∧Sat w0 w' F):=lane_c 0 x h
theorem cut_from (hr:RS w0 F bv l) (h:Sat w0 w F){k:Nat} (hk:k≤l.length):∃ a c a2 c2,bv = .slice a l.length c∧l.length≤c∧c≤9223372036854775807∧(∀ w,(Instr.sliceAt 24 (.slice a l.length c) (some (.int .i64 k)) none none).run Tryz.prog w = .ok (.slice a2 (l.drop k).length c2) w)∧RS w0 F (.slice a2 (l.drop k).length c2) (l.drop k):=by
 obtain ⟨a,c,rfl,h1,h2⟩:=hr.len h
 have hs:=hr.from hk
 obtain ⟨a2,c2,he,h3,h4⟩:=hs.len h
 refine ⟨a,c,a2,c2,rfl,h1,h2,fun w=>?_,by rw [← he];exact hs⟩
 rw [← he];exact run_slF hk w
theorem cut_to (hr:RS w0 F bv l) (h:Sat w0 w F){k:Nat} (hk:k≤l.length):∃ a c a2 c2,bv = .slice a l.length c∧l.length≤c∧c≤9223372036854775807∧(∀ w,(Instr.sliceAt 24 (.slice a l.length c) none (some (.int .i64 k)) none).run Tryz.prog w = .ok (.slice a2 k c2) w)∧RS w0 F (.slice a2 k c2) (l.take k):=by
 obtain ⟨a,c,rfl,h1,h2⟩:=hr.len h
 have hs:=hr.to hk c oQ (Nat.le_refl c)
 obtain ⟨a2,c2,he,h3,h4⟩:=hs.len h
 have e:(l.take k).length=k:=by rw [List.length_take];omega
 rw [e]at he
 refine ⟨a,c,a2,c2,rfl,h1,h2,fun w=>?_,by rw [← he];exact hs⟩
 rw [← he];exact run_slT oQ w
set_option maxRecDepth 20000 in
theorem xtail_c (x:Nat) (hx:x<18446744073709551616) (l:Bs) (hl:l.length≤1073741824) (hr:RS w0 F bv l) (h:Sat w0 w F):Calls Tryz.prog 186 #[.int .u64 x,bv] w (Rtn fun v w'=>v = .int .u64 (Xx.tail x l:Nat)∧Sat w0 w' F):=by
 obtain ⟨ba,bc,rfl,hb1,hb2⟩:=hr.len h
 have Hr:=uQ hr;have Hx:=uQ hx;have Hl:=uQ hl
 clear hr hx hl hb1 hb2
 go_enter Tryz.func186,Tryz.ntmps186
 go_wp2_with fail
 go_loopg [0,1] l.length (fun g xq bq wr=>∃ (y:Nat) (m:Bs),g=m.length∧m.length≤l.length∧xq = .int .u64 (y:Nat)∧y<18446744073709551616∧RS w0 F bq m∧Xx.tail8 l.length x l=Xx.tail8 m.length y m∧Sat w0 wr F)
 case atStart=>exact ⟨x,l,rfl,Nat.le_refl _,rfl,Hx.out,Hr.out,rfl,h⟩
 case round=>
  obtain ⟨y,m,rfl,hml,rfl,hy,hRS,heq,hS⟩:=hrel
  clear h
  by_cases h8:8≤m.length
  ·as_aux_lemma=>
   obtain ⟨a,c,a2,c2,rfl,k1,k2,hrun,hRS2⟩:=cut_from hRS hS h8
   have hwd:=word_c m h8 hRS hS
   have hst:Xx.tail8 m.length y m=Xx.tail8 (m.drop 8).length (Xx.t8 y (Frm.num (m.take 8))) (m.drop 8):=by rw [Xx.tail8_step h8 (Nat.le_refl _),List.length_drop]
   generalize Frm.num (m.take 8)=N at *
   have hln:=uQ (fun (w:World) (hS:Sat w0 w F)=>lane0_c N hS)
   obtain ⟨r,z,u,g1,hr1,g3,g4,hu,ht8⟩:=t8_ex hy N
   generalize Xx.lane 0 N=t at *
   have htu:=uQ (fun (w:World) (hS:Sat w0 w F)=>turn27_c r hr1 hS)
   generalize Xx.turn r 27=s at *
   rw [ht8]at hst
   have hlt8:(m.drop 8).length<m.length:=by rw [List.length_drop];omega
   generalize m.drop 8=m2 at *
   have c1:(8:Int)≤(m.length:Int):=oQ
   have Hu:=uQ hu;have Hst:=uQ (heq.trans hst);have HR:=uQ hRS2;have Hlt:=uQ (And.intro hlt8 hml)
   clear hu hr1 hst ht8 heq hRS2 hRS hlt8 hml hy k1 k2 h8
   go_wp2_with fail
   refine hwd.mono ?_
   rintro ee w2 ⟨v,rfl,rfl,rfl⟩
   clear hwd
   go_wp2_with fail
   refine (hln.out _ hS).mono ?_
   rintro ee w3 ⟨v,rfl,rfl,h3⟩
   clear hln hS
   go_wp2_with fail
   refine (htu.out _ h3).mono ?_
   rintro ee w4 ⟨v,rfl,rfl,h4⟩
   clear htu h3
   go_wp2_with ((with_reducible refine at_slF ⟨?_⟩);refine wl_slF rFz rFz hrun ?_)
   go_roundg m2.length
   case measure=>exact Hlt.out.1
   case rel=>exact ⟨u,m2,rfl,by have:=Hlt.out;omega,rfl,Hu.out,HR.out,Hst.out,h4⟩
  ·have hst:Xx.tail8 l.length x l=(y,m):=heq.trans (Xx.tail8_stop h8)
   have hT:Xx.tail x l=(Xx.tail4 y m).2.foldl Xx.t1 (Xx.tail4 y m).1:=by unfold Xx.tail;rw [hst]
   have hl2:m.length≤1073741824:=Nat.le_trans hml Hl.out
   have c1:¬ (8:Int)≤(m.length:Int):=oQ
   clear heq hst h8 hml
   by_cases h4:4≤m.length
   ·have e4:Xx.tail4 y m=(Xx.t4 y (Frm.num (m.take 4)),m.drop 4):=by unfold Xx.tail4;rw [if_pos h4]
    rw [e4]at hT
    obtain ⟨a,c,a2,c2,rfl,k1,k2,hrunT,hRST⟩:=cut_to hRS hS h4
    obtain ⟨a',c',a3,c3,he,_,_,hrunF,hRSF⟩:=cut_from hRS hS h4
    cases he
    have hgt:=get4_r (m.take 4) (by rw [List.length_take];omega) a2 c2 (hRST.rd _ hS)
    obtain ⟨t,r,z,u,g0,g1,hr1,g3,g4,hu,ht4⟩:=t4_ex hy (Frm.num (m.take 4))
    rw [ht4]at hT
    generalize Frm.num (m.take 4)=N at *
    have htu:=turn23_c r hr1 hS
    generalize Xx.turn r 23=s at *
    have hl4:(m.drop 4).length≤1073741824:=by rw [List.length_drop];omega
    have c2i:(4:Int)≤(m.length:Int):=oQ
    dsimp only at hT
    generalize m.drop 4=m2 at *
    have Hu:=uQ hu;have HT:=uQ hT;have HR:=uQ hRSF
    clear hu hr1 hT ht4 hRS hRST hRSF hy k1 k2 h4 e4 hl2
    go_wp2_with (first
     |((with_reducible refine at_slT ⟨?_⟩);refine wl_slT rFz rFz hrunT ?_))
    refine hgt.mono ?_
    rintro ee w2 ⟨v,rfl,rfl,rfl⟩
    clear hgt
    go_wp2_with fail
    refine htu.mono ?_
    rintro ee w3 ⟨v,rfl,rfl,h3⟩
    clear htu hS
    go_wp2_with ((with_reducible refine at_slF ⟨?_⟩);refine wl_slF rFz rFz hrunF ?_)
    clear c1 c2i g0 g1 g3 g4 hrunT hrunF
    have Hm:=uQ (show m2.length≤1073741824 from by omega)
    have HRS:=uQ HR.out;have HE:=uQ HT.out;have Hy:=uQ Hu.out
    go_wp2_with fail
    go_loopg [0,42] m2.length (fun g xq iq wr=>∃ (i z:Nat),g=m2.length - i∧i≤m2.length∧xq = .int .u64 (z:Nat)∧iq = .int .i64 i∧z<18446744073709551616∧z=(m2.take i).foldl Xx.t1 u∧Sat w0 wr F)
    case atStart=>exact ⟨0,u,rfl,Nat.zero_le _,rfl,rfl,Hy.out,rfl,h3⟩
    case round=>
     obtain ⟨i,z,rfl,hi,rfl,rfl,hz,hze,hS9⟩:=hrel
     by_cases hi':i<m2.length
     ·as_aux_lemma=>
      have hb:(bys m2)[i]?=some (.int .u8 (m2[i]'hi').toNat):=by unfold bys;simp [hi']
      obtain ⟨bk,off,rfl,c1⟩:=rdsl_cell (HRS.out.rd _ hS9) hb
      have hic:(i:Int)<(m2.length:Int):=oQ
      have hwi:IntKind.i64.wrap ((i:Int)+1)=(i:Int)+1:=IntWalk.i64_in _ (by have:=Hm.out;omega)
      have hnx:(m2.take (i+1)).foldl Xx.t1 u=Xx.t1 z (m2[i]'hi'):=by rw [List.take_succ_eq_append_getElem hi',List.foldl_append,← hze,List.foldl_cons,List.foldl_nil]
      have hcb:=(m2[i]'hi').toNat_lt
      obtain ⟨q,r,u,g1,g2,hr,g3,hu,htq⟩:=t1_ex hz (m2[i]'hi')
      rw [htq]at hnx
      have ht1:=hnx
      clear hnx hb htq
      generalize (m2[i]'hi').toNat=cb at *
      have htu:=turn11_c r hr hS9
      generalize Xx.turn r 11=s at *
      have hcm:IntKind.u64.wrap (cb:Int)=(cb:Int):=by rw [IntKind.wrap_u64];omega
      have Hu:=uQ hu;have Hze:=uQ ht1;have Hi:=uQ hi'
      clear hu hr ht1 hze hz hcb hi hi'
      go_wp2_with fail
      refine htu.mono ?_
      rintro ee w9 ⟨v,rfl,rfl,h9⟩
      clear htu hS9
      go_wp2
      go_roundg (m2.length - (i+1))
      case measure=>have:=Hi.out;omega
      case rel=>exact ⟨i+1,u,rfl,Nat.succ_le_of_lt Hi.out,rfl,by first|rfl|go_num,Hu.out,Hze.out.symm,h9⟩
     ·as_aux_lemma=>
      obtain rfl:i=m2.length:=by omega
      have hic:¬ (m2.length:Int)<(m2.length:Int):=oQ
      rw [List.take_length]at hze
      have Hf:=uQ (show Xx.tail x l=z by rw [HE.out,hze])
      clear hze hz hi hi'
      go_wp2
      go_ret
      exact ⟨_,rfl,by first|(rw [Hf.out];rfl)|(rw [← HE.out,Hf.out];rfl),hS9⟩
   ·have e4:Xx.tail4 y m=(y,m):=by unfold Xx.tail4;rw [if_neg h4]
    rw [e4]at hT
    dsimp only at hT
    obtain ⟨a,c,rfl,k1,k2⟩:=hRS.len hS
    have c2i:¬ (4:Int)≤(m.length:Int):=oQ
    have HT:=uQ hT
    clear e4 h4 k1 k2 hT
    have Hm:=uQ (show m.length≤1073741824 from by omega)
    have HRS:=uQ hRS;have HE:=uQ HT.out;have Hy:=uQ hy
    go_wp2_with fail
    go_loopg [0,42] m.length (fun g xq iq wr=>∃ (i z:Nat),g=m.length - i∧i≤m.length∧xq = .int .u64 (z:Nat)∧iq = .int .i64 i∧z<18446744073709551616∧z=(m.take i).foldl Xx.t1 y∧Sat w0 wr F)
    case atStart=>exact ⟨0,y,rfl,Nat.zero_le _,rfl,rfl,Hy.out,rfl,hS⟩
    case round=>
     obtain ⟨i,z,rfl,hi,rfl,rfl,hz,hze,hS9⟩:=hrel
     by_cases hi':i<m.length
     ·as_aux_lemma=>
      have hb:(bys m)[i]?=some (.int .u8 (m[i]'hi').toNat):=by unfold bys;simp [hi']
      obtain ⟨bk,off,rfl,c1⟩:=rdsl_cell (HRS.out.rd _ hS9) hb
      have hic:(i:Int)<(m.length:Int):=oQ
      have hwi:IntKind.i64.wrap ((i:Int)+1)=(i:Int)+1:=IntWalk.i64_in _ (by have:=Hm.out;omega)
      have hnx:(m.take (i+1)).foldl Xx.t1 y=Xx.t1 z (m[i]'hi'):=by rw [List.take_succ_eq_append_getElem hi',List.foldl_append,← hze,List.foldl_cons,List.foldl_nil]
      have hcb:=(m[i]'hi').toNat_lt
      obtain ⟨q,r,u,g1,g2,hr,g3,hu,htq⟩:=t1_ex hz (m[i]'hi')
      rw [htq]at hnx
      have ht1:=hnx
      clear hnx hb htq
      generalize (m[i]'hi').toNat=cb at *
      have htu:=turn11_c r hr hS9
      generalize Xx.turn r 11=s at *
      have hcm:IntKind.u64.wrap (cb:Int)=(cb:Int):=by rw [IntKind.wrap_u64];omega
      have Hu:=uQ hu;have Hze:=uQ ht1;have Hi:=uQ hi'
      clear hu hr ht1 hze hz hcb hi hi'
      go_wp2_with fail
      refine htu.mono ?_
      rintro ee w9 ⟨v,rfl,rfl,h9⟩
      clear htu hS9
      go_wp2
      go_roundg (m.length - (i+1))
      case measure=>have:=Hi.out;omega
      case rel=>exact ⟨i+1,u,rfl,Nat.succ_le_of_lt Hi.out,rfl,by first|rfl|go_num,Hu.out,Hze.out.symm,h9⟩
     ·as_aux_lemma=>
      obtain rfl:i=m.length:=by omega
      have hic:¬ (m.length:Int)<(m.length:Int):=oQ
      rw [List.take_length]at hze
      have Hf:=uQ (show Xx.tail x l=z by rw [HE.out,hze])
      clear hze hz hi hi'
      go_wp2
      go_ret
      exact ⟨_,rfl,by first|(rw [Hf.out];rfl)|(rw [← HE.out,Hf.out];rfl),hS9⟩
end
abbrev rdrPt (p:Nat) (rv:Value):HProp:=pt p (.cells #[rv,errno 0,.bool true] 298 (0,0))
section
variable {w0 w:World}{F:List HProp}{v bv rv:Value}{p n k:Nat}{l m:Bs}
end
section
variable {P:Program}{w0 w:World}{ops:Array Oper}{rest:List Oper}{a:Act}{Q:Exit→Act→World→Prop}{dst:Option Tmp}{t ty:TypeId}{pos:String}{after:Array Edge}{v:Value}{parts:Array (Nat×Operand)}
theorem wl_buildC (parts':Array (Nat×Value)) (he:parts.map (fun p=>(p.1,a.eval p.2))=parts') (hr:∀ w,(Instr.build ty parts').run P w = .ok v w) (h:wpList P ops Q rest (a.put dst v) w):wpList P ops Q (⟨dst,.build ty parts,t,pos,after,none⟩::rest) a w:=
 wpList_plain rfl fun _ hK=>by
  unfold Oper.wp execOp
  simp only [he,Sem.run_bind,hr,Result.andThen_ok,Sem.run_pure]
  exact hK _ _ h
theorem at_buildC (h:Stop (wpList P ops Q (⟨dst,.build ty parts,t,pos,after,none⟩::rest) a w)):wpList P ops Q (⟨dst,.build ty parts,t,pos,after,none⟩::rest) a w:=h.out
end
section
variable {w0 w:World}{F:List HProp}
abbrev kndA (mg:ByteArray) (kd:Bool) (k:Nat):Array Value:=#[.string mg,.bool kd,.int .i64 k]
abbrev idxK:Array Value:=kndA ⟨#[72,79,65,82,68,73,68,88]⟩ true 3
abbrev useK:Array Value:=kndA ⟨#[72,79,65,82,68,85,83,69]⟩ false 3
theorem zKnd:zeroB Tryz.prog 177=some (.agg #[.string ⟨#[]⟩,.bool false,.int .i64 0]):=by kernel_rfl
theorem run_idx (w:World):(Instr.build 177 #[(0,.string ⟨#[72,79,65,82,68,73,68,88]⟩),(1,.bool true),(2,.int .i64 3)]).run Tryz.prog w = .ok (.agg idxK) w:=by kernel_rfl
theorem run_use (w:World):(Instr.build 177 #[(0,.string ⟨#[72,79,65,82,68,85,83,69]⟩),(1,.bool false),(2,.int .i64 3)]).run Tryz.prog w = .ok (.agg useK) w:=by kernel_rfl
theorem index_c (h:Sat w0 w F):Calls Tryz.prog 100 #[] w (Rtn fun v w'=>v = .agg idxK∧Sat w0 w' F):=by
 go_enter Tryz.func100,Tryz.ntmps100
 go_wp2_with (with_reducible apply at_alloc)
 refine ⟨wl_alloc zKnd h rfl ?_⟩
 intro b4 w4 h4
 have hb:=run_idx
 go_wp2_with (first
  |((with_reducible refine at_store ⟨?_⟩);refine wl_storeA idxK h4 rFz rFz rFz upd0 kRz rFz ?_;intro w9 h9))
 refine ⟨rfl,_,res_cell rfl h9 rFz pkD Tryz.underlying177 rfl kRz,?_⟩
 exact ⟨_,rfl,rfl,h9.drop⟩
theorem uses_c (h:Sat w0 w F):Calls Tryz.prog 105 #[] w (Rtn fun v w'=>v = .agg useK∧Sat w0 w' F):=by
 go_enter Tryz.func105,Tryz.ntmps105
 go_wp2_with (with_reducible apply at_alloc)
 refine ⟨wl_alloc zKnd h rfl ?_⟩
 intro b4 w4 h4
 have hb:=run_use
 go_wp2_with (first
  |((with_reducible refine at_store ⟨?_⟩);refine wl_storeA useK h4 rFz rFz rFz upd0 kRz rFz ?_;intro w9 h9))
 refine ⟨rfl,_,res_cell rfl h9 rFz pkD Tryz.underlying177 rfl kRz,?_⟩
 exact ⟨_,rfl,rfl,h9.drop⟩
end
abbrev rwA (x:Bok.Rw) (nv:Value):Array Value:=(bys x.key++[nv]).toArray
section
variable {w0 w:World}{F:List HProp}{na nb:Value}
theorem rw_key {x:Bok.Rw}{nv:Value}{j:Nat}{v:Value} (h:(bys x.key)[j]?=some v):(rwA x nv)[j]?=some v:=by
 have hj:j<(bys x.key).length:=by
  rcases Nat.lt_or_ge j (bys x.key).length with k|k
  ·exact k
  ·rw [List.getElem?_eq_none k]at h;cases h
 rw [List.getElem?_toArray,List.getElem?_append_left hj];exact h
theorem rw_nums {x:Bok.Rw}{nv:Value} (hk:x.key.length=32):(rwA x nv)[32]?=some nv:=by
 rw [List.getElem?_toArray,List.getElem?_append_right (by rw [bys_len,hk];exact Nat.le_refl 32),bys_len,hk];rfl
set_option maxRecDepth 20000 in
theorem tless_c (a b:Frm.Bs) (ha:a.length=32) (hb:b.length=32) (h:Sat w0 w F) :
  Calls Tryz.prog 182 #[.agg (bys a).toArray,.agg (bys b).toArray] w (Rtn fun v w'=>v = .bool (decide (a<b))∧Sat w0 w' F):=by
 have He:=uQ (show decide (Lib.compareBytes a b<0)=decide (a<b) from decide_eq_decide.2 (Tab.cmpB_lt a b))
 go_enter Tryz.func182,Tryz.ntmps182
 go_wp2_with (with_reducible apply at_box)
 refine ⟨wl_box h evD evD ?_⟩
 intro b2 w2 h2
 go_wp2_with (with_reducible apply at_box)
 refine ⟨wl_box h2 evD evD ?_⟩
 intro b3 w3 h3
 have hS:=h3.drew
 have r1:rdsl 1 (.slice (some ⟨b2,0,none⟩) 32 32) (bys a) w3.drew:=⟨_,_,_,rfl,by rw [bys_len,ha],fun j z hj=>⟨_,rfl,by rw [adr_add,Nat.zero_add];exact hS.cellP pick1 j (by rw [List.getElem?_toArray];exact hj)⟩⟩
 have r2:rdsl 1 (.slice (some ⟨b3,0,none⟩) 32 32) (bys b) w3.drew:=⟨_,_,_,rfl,by rw [bys_len,hb],fun j z hj=>⟨_,rfl,by rw [adr_add,Nat.zero_add];exact hS.cellP pick0 j (by rw [List.getElem?_toArray];exact hj)⟩⟩
 have hbc:=bcmp_c a b r1 r2
 generalize Lib.compareBytes a b=r at *
 clear h h2 h3 r1 r2 ha hb
 go_wp2_with fail
 have hG:True:=trivial
 refine wpL_begin [] (fun w'=>True) kRz ?_
 refine rp 0 (hy:=(by (refine Or.inl ⟨by rfl,?_⟩;((intro wq;go_simp);first|done|exact wQ)))) (h:=?_)
 refine rp 1 (hy:=(by (refine Or.inl ⟨by rfl,?_⟩;((intro wq;go_simp);first|done|exact wQ)))) (h:=?_)
 refine rg_eff 2 evD kRz (fun K hK=>?_)
 (refine eff_call2 kRz evD evD ?_)
 refine hbc.mono ?_
 rintro e w' ⟨rfl,rfl⟩
 refine hK _ _ (.inr (.inr rfl)) ?_
 clear hK hbc
 refine rP 3 ?_ (y:=bnQ)
 refine rP 4 ?_ (y:=asQ)
 refine wpL_done kRz ?_
 clear hG
 go_wp2_with fail
 go_ret
 exact ⟨_,rfl,by rw [← He.out];rfl,hS.drop.drop⟩
set_option maxRecDepth 20000 in
theorem aheadK_c (mg:ByteArray) (k:Nat) (a b:Bok.Rw) (ha:a.key.length=32) (hb:b.key.length=32) (h:Sat w0 w F) :
  Calls Tryz.prog 161 #[.agg (kndA mg true k),.agg (rwA a na),.agg (rwA b nb)] w (Rtn fun v w'=>v = .bool (decide (Bok.ahead true a b))∧Sat w0 w' F):=by
 have He:=uQ (show decide (Bok.ahead true a b)=decide (a.key<b.key) from decide_eq_decide.2 Iff.rfl)
 have hia:(Tryz.prog.info? 23).map (·.size)=some (bys a.key).length:=by rw [bys_len,ha];kernel_rfl
 have hib:(Tryz.prog.info? 23).map (·.size)=some (bys b.key).length:=by rw [bys_len,hb];kernel_rfl
 have Hl:=uQ (fun (w':World) (R:List HProp) (hw:Sat w0 w' R)=>tless_c a.key b.key ha hb hw)
 clear ha hb
 go_enter Tryz.func161,Tryz.ntmps161
 go_wp2_with (with_reducible apply at_box)
 refine ⟨wl_box h evD evD ?_⟩
 intro b1 w1 h1
 go_wp2_with (with_reducible apply at_box)
 refine ⟨wl_box h1 evD evD ?_⟩
 intro b2 w2 h2
 go_wp2_with (with_reducible apply at_box)
 refine ⟨wl_box h2 evD evD ?_⟩
 intro b3 w3 h3
 clear h h1 h2
 go_wp2_with (first
  |((with_reducible refine at_load ⟨?_⟩);first
   |refine wl_load1 h3 rFz (pick_there pick1) nLz evD kRz ?_
   |refine wl_loadN (o:=0) (bys a.key) h3 rFz pick1 (fun j v hj=>by rw [Nat.zero_add];exact rw_key hj) Tryz.underlying23 rfl hia ?_
   |refine wl_loadN (o:=0) (bys b.key) h3 rFz pick0 (fun j v hj=>by rw [Nat.zero_add];exact rw_key hj) Tryz.underlying23 rfl hib ?_))
 refine (Hl.out _ _ h3).mono ?_
 rintro e w4 ⟨v,rfl,rfl,h4⟩
 clear Hl h3
 go_wp2
 go_ret
 exact ⟨_,rfl,by rw [He.out];rfl,h4.drop.drop.drop⟩
end
structure RV where
 x:Bok.Rw
 nv:Value
def rvL (r:RV):List Value:=bys r.x.key++[r.nv]
structure RVRo (w0:World) (F:List HProp) (r:RV):Prop where
 key:r.x.key.length=32
 rd:Ro w0 F (rdsl 1 r.nv (ints r.x.nums))
 ne:0<r.x.nums.length
section
variable {w0 w:World}{F:List HProp}{lv:Value}
theorem rvL_len (r:RV) (h:r.x.key.length=32):(rvL r).length=33:=by unfold rvL;rw [List.length_append,bys_len,h];rfl
theorem RVRo.sub {r:RV}{G:List HProp} (h:RVRo w0 F r) (k:Sub G F):RVRo w0 G r:=⟨h.key,Ro.of_sub h.rd k,h.ne⟩
theorem nums_cell {nv:Value}{l:List Int} (h:rdsl 1 nv (ints l) w) (hl:0<l.length):∃ bk off c,nv = .slice (some ⟨bk,off,none⟩) l.length c∧w.cell? ⟨bk,off,none⟩=some (.int .i64 (l.getD 0 0)):=by
 have h0:l[0]?=some (l.getD 0 0):=by rw [List.getD_eq_getElem?_getD,List.getElem?_eq_getElem hl];rfl
 obtain ⟨bk,off,cc,hsv,hcell⟩:=osl_row (f:=fun i:Int=>[Value.int .i64 i]) (k:=1) (l:=l) (fun u _=>rfl) (by rw [show ints l=l.flatMap fun i=>[Value.int .i64 i] from by unfold ints;exact List.map_eq_flatMap]at h;exact h) h0 dCz
 have f0:=hcell 0 _ rfl
 rw [Nat.mul_one,Nat.add_zero]at f0
 exact ⟨bk,off,cc,hsv,f0⟩
set_option maxRecDepth 20000 in
theorem aheadU_c (mg:ByteArray) (k:Nat) (a b:RV) (ha:RVRo w0 F a) (hb:RVRo w0 F b) (h:Sat w0 w F) :
  Calls Tryz.prog 161 #[.agg (kndA mg false k),.agg (rwA a.x a.nv),.agg (rwA b.x b.nv)] w (Rtn fun v w'=>v = .bool (decide (Bok.ahead false a.x b.x))∧Sat w0 w' F):=by
 obtain ⟨a,na⟩:=a
 obtain ⟨b,nb⟩:=b
 have He:=uQ (show decide (Bok.ahead false a b)=decide (a.nums.getD 0 0<b.nums.getD 0 0) from decide_eq_decide.2 Iff.rfl)
 have Ha:=uQ ha;have Hb:=uQ hb
 clear ha hb
 go_enter Tryz.func161,Tryz.ntmps161
 go_wp2_with (with_reducible apply at_box)
 refine ⟨wl_box h evD evD ?_⟩
 intro b1 w1 h1
 go_wp2_with (with_reducible apply at_box)
 refine ⟨wl_box h1 evD evD ?_⟩
 intro b2 w2 h2
 go_wp2_with (with_reducible apply at_box)
 refine ⟨wl_box h2 evD evD ?_⟩
 intro b3 w3 h3
 clear h h1 h2
 have hS:=h3.drew
 obtain ⟨ka,oa,ca,e1,f1⟩:=nums_cell (Ha.out.rd _ hS.drop.drop.drop) Ha.out.ne
 obtain ⟨kb,ob,cb,e2,f2⟩:=nums_cell (Hb.out.rd _ hS.drop.drop.drop) Hb.out.ne
 dsimp only at e1 e2 f1 f2
 subst e1 e2
 have hG0:=And.intro (hS.cellP pick1 32 (rw_nums Ha.out.key)) (And.intro f1 (And.intro (hS.cellP pick0 32 (rw_nums Hb.out.key)) f2))
 have Hpa:=uQ Ha.out.ne;have Hpb:=uQ Hb.out.ne
 dsimp only at Hpa Hpb
 clear f1 f2
 generalize a.nums.getD 0 0=X at *
 generalize b.nums.getD 0 0=Y at *
 have q1:(0:Int)<(a.nums.length:Int):=by have:=Hpa.out;omega
 have q2:(0:Int)<(b.nums.length:Int):=by have:=Hpb.out;omega
 have q3:0<a.nums.length:=Hpa.out
 have q4:0<b.nums.length:=Hpb.out
 go_wp2_with ((with_reducible refine at_load ⟨?_⟩);refine wl_load1 h3 rFz (pick_there pick1) nLz evD kRz ?_)
 clear h3
 refine wpL_begin [8,9] (fun w'=>w'.cell? ⟨b2,32,none⟩=some (.slice (some ⟨ka,oa,none⟩) a.nums.length ca)∧w'.cell? ⟨ka,oa,none⟩=some (.int .i64 X)∧w'.cell? ⟨b3,32,none⟩=some (.slice (some ⟨kb,ob,none⟩) b.nums.length cb)∧w'.cell? ⟨kb,ob,none⟩=some (.int .i64 Y)) kRz ?_
 have hG:=hG0
 clear hG0
 refine rP 0 ?_ (y:=flQ)
 refine rt 1 (h:=?_)
 refine rP 2 ?_ (y:=ixQ)
 refine rt 3 (h:=?_)
 refine rP 4 ?_ (y:=flQ)
 refine rt 5 (h:=?_)
 refine rP 6 ?_ (y:=ixQ)
 refine rt 7 (h:=?_)
 clear hG
 refine rP 8 ?_ (y:=bnQ)
 refine rP 9 ?_ (y:=asQ)
 refine wpL_done kRz ?_
 go_wp2_with fail
 go_ret
 exact ⟨_,rfl,by rw [He.out];rfl,hS.drop.drop.drop⟩
theorem ahead_c (mg:ByteArray) (kd:Bool) (k:Nat) (a b:RV) (ha:RVRo w0 F a) (hb:RVRo w0 F b) (h:Sat w0 w F) :
  Calls Tryz.prog 161 #[.agg (kndA mg kd k),.agg (rwA a.x a.nv),.agg (rwA b.x b.nv)] w (Rtn fun v w'=>v = .bool (decide (Bok.ahead kd a.x b.x))∧Sat w0 w' F):=by
 cases kd
 ·exact aheadU_c mg k a b ha hb h
 ·exact aheadK_c mg k a.x b.x ha.key hb.key h
set_option maxRecDepth 20000 in
theorem rises_c (mg:ByteArray) (kd:Bool) (k:Nat) (rs:List RV) (hn:rs.length≤1073741824) (hr:Ro w0 F (rdsl 33 lv (rs.flatMap rvL))) (he:∀ r∈rs,RVRo w0 F r) (h:Sat w0 w F) :
  Calls Tryz.prog 138 #[.agg (kndA mg kd k),lv] w (Rtn fun v w'=>∃ t:Bool,v = .bool t∧(t=true↔Bok.Rises kd (rs.map (·.x)))∧Sat w0 w' F):=by
 obtain ⟨la,lc,rfl⟩:=osl_rows (fun r hr=>rvL_len r (he r hr).key) (hr w h) dCz
 have Hr:=uQ hr;have He:=uQ he;have Hn:=uQ hn
 clear hr he hn
 go_enter Tryz.func138,Tryz.ntmps138
 go_wp2_with (with_reducible apply at_box)
 refine ⟨wl_box h evD evD ?_⟩
 intro b2 w2 h2
 clear h
 go_wp2_with fail
 go_loopg [5] rs.length (fun g iq wr=>∃ m:Nat,g=rs.length - m∧iq = .int .i64 ((m:Int)+1)∧(∀ i a b,i<m→(rs.map (·.x))[i]?=some a→(rs.map (·.x))[i+1]?=some b→Bok.ahead kd a b)∧m≤rs.length∧Sat w0 wr (pt b2 (.cells (kndA mg kd k) 177 (0,0))::F))
 case atStart=>exact ⟨0,rfl,rfl,fun i a b hi=>absurd hi (Nat.not_lt_zero _),Nat.zero_le _,h2⟩
 case round=>
  obtain ⟨m,rfl,rfl,hal,hm,hS⟩:=hrel
  clear h2
  have Hal:=uQ hal
  clear hal
  by_cases hlt:m+1<rs.length
  ·have c1:(m:Int)+1<(rs.length:Int):=by omega
   have c0:(m:Int)<(rs.length:Int):=oQ
   have c2:(0:Int)≤(m:Int)+1:=oQ
   have hw0:IntKind.i64.wrap (m:Int)=(m:Int):=IntWalk.i64_in _ (by have:=Hn.out;omega)
   have hw1:IntKind.i64.wrap ((m:Int)+1 - 1)=(m:Int):=by rw [Int.add_sub_cancel];exact hw0
   have hw2:IntKind.i64.wrap ((m:Int)+1+1)=(m:Int)+1+1:=IntWalk.i64_in _ (by have:=Hn.out;omega)
   obtain ⟨r1,hx1⟩:∃ q,rs[m]?=some q:=⟨_,List.getElem?_eq_getElem oQ⟩
   obtain ⟨r2,hx2⟩:∃ q,rs[m+1]?=some q:=⟨_,List.getElem?_eq_getElem hlt⟩
   have Hx1:=uQ hx1;have Hx2:=uQ hx2
   have H1:=uQ (He.out r1 (List.mem_of_getElem? hx1));have H2:=uQ (He.out r2 (List.mem_of_getElem? hx2))
   have hS1:=hS.drew
   obtain ⟨bk,off,c',hsv,hc1⟩:=osl_row (f:=rvL) (k:=33) (fun r hr=>rvL_len r (He.out r hr).key) (Hr.out _ hS1.drop) hx1 dCz
   cases hsv
   obtain ⟨bk',off',c2',e2,hc2⟩:=osl_row (f:=rvL) (k:=33) (fun r hr=>rvL_len r (He.out r hr).key) (Hr.out _ hS1.drop) hx2 dCz
   cases e2
   have hG0:World.rangeAt _ b2 0 [.string mg,.bool kd,.int .i64 k]∧World.rangeAt _ bk (off+m * 33) (rvL r1)∧World.rangeAt _ bk (off+(m+1) * 33) (rvL r2):=⟨pt_rangeL (l:=[.string mg,.bool kd,.int .i64 k]) hS1,hc1,hc2⟩
   have hah:=ahead_c mg kd k r1 r2 (H1.out.sub sbD) (H2.out.sub sbD) hS1
   have Hlt:=uQ hlt
   clear hx1 hx2 hc1 hc2 hlt hm hS
   by_cases hab:Bok.ahead kd r1.x r2.x
   ·rw [decide_eq_true hab]at hah
    have Hab:=uQ hab
    clear hab
    go_wp2_with fail
    refine wpL_begin [10,11] (fun w'=>w'.rangeAt b2 0 [.string mg,.bool kd,.int .i64 k]∧w'.rangeAt bk (off+m * 33) (rvL r1)∧w'.rangeAt bk (off+(m+1) * 33) (rvL r2)) kRz ?_
    have hG:=hG0
    clear hG0
    refine rg_take 0 evD kRz i3z (tk_loadN (b:=b2) (o:=0) [.string mg,.bool kd,.int .i64 k] rFz Tryz.underlying177 rfl kRz (fun w hw=>hw.1)) aQ gQ ?_
    refine rP 1 ?_ (y:=mvQ)
    refine rP 2 ?_ (y:=mvQ)
    refine rP 3 ?_ (y:=bnQ)
    refine rP 4 ?_ (y:=ixQ)
    refine rg_take 5 evD kRz i3z (tk_loadN (b:=bk) (o:=off+m * 33) (rvL r1) rFz Tryz.underlying185 rfl (by rw [rvL_len _ H1.out.key];kernel_rfl) (fun w hw=>hw.2.1)) aQ gQ ?_
    refine rP 6 ?_ (y:=mvQ)
    refine rP 7 ?_ (y:=mvQ)
    refine rP 8 ?_ (y:=ixQ)
    refine rg_take 9 evD kRz i3z (tk_loadN (b:=bk) (o:=off+(m+1) * 33) (rvL r2) rFz Tryz.underlying185 rfl (by rw [rvL_len _ H2.out.key];kernel_rfl) (fun w hw=>hw.2.2)) aQ gQ ?_
    clear hG
    refine rg_eff 10 evD kRz (fun K hK=>?_)
    (refine eff_call3 kRz evD evD evD ?_)
    refine hah.mono ?_
    rintro ee w9 ⟨v,rfl,rfl,h9⟩
    refine hK _ _ (.inl rfl) ?_
    clear hK hah hS1
    refine rP 11 ?_ (y:=(yl_un evD rnD))
    refine wpL_done kRz ?_
    go_wp2_with fail
    go_roundg (rs.length - (m+1))
    case measure=>have:=Hlt.out;omega
    case rel=>
     refine ⟨m+1,rfl,by first|rfl|go_num,fun i a b hi ha hb=>?_,Nat.le_of_lt Hlt.out,h9⟩
     rcases Nat.lt_succ_iff_lt_or_eq.1 hi with hi|rfl
     ·exact Hal.out i a b hi ha hb
     ·rw [List.getElem?_map,Hx1.out]at ha
      rw [List.getElem?_map,Hx2.out]at hb
      cases ha;cases hb
      exact Hab.out
   ·rw [decide_eq_false hab]at hah
    have Hab:=uQ hab
    clear hab
    go_wp2_with fail
    refine wpL_begin [10,11] (fun w'=>w'.rangeAt b2 0 [.string mg,.bool kd,.int .i64 k]∧w'.rangeAt bk (off+m * 33) (rvL r1)∧w'.rangeAt bk (off+(m+1) * 33) (rvL r2)) kRz ?_
    have hG:=hG0
    clear hG0
    refine rg_take 0 evD kRz i3z (tk_loadN (b:=b2) (o:=0) [.string mg,.bool kd,.int .i64 k] rFz Tryz.underlying177 rfl kRz (fun w hw=>hw.1)) aQ gQ ?_
    refine rP 1 ?_ (y:=mvQ)
    refine rP 2 ?_ (y:=mvQ)
    refine rP 3 ?_ (y:=bnQ)
    refine rP 4 ?_ (y:=ixQ)
    refine rg_take 5 evD kRz i3z (tk_loadN (b:=bk) (o:=off+m * 33) (rvL r1) rFz Tryz.underlying185 rfl (by rw [rvL_len _ H1.out.key];kernel_rfl) (fun w hw=>hw.2.1)) aQ gQ ?_
    refine rP 6 ?_ (y:=mvQ)
    refine rP 7 ?_ (y:=mvQ)
    refine rP 8 ?_ (y:=ixQ)
    refine rg_take 9 evD kRz i3z (tk_loadN (b:=bk) (o:=off+(m+1) * 33) (rvL r2) rFz Tryz.underlying185 rfl (by rw [rvL_len _ H2.out.key];kernel_rfl) (fun w hw=>hw.2.2)) aQ gQ ?_
    clear hG
    refine rg_eff 10 evD kRz (fun K hK=>?_)
    (refine eff_call3 kRz evD evD evD ?_)
    refine hah.mono ?_
    rintro ee w9 ⟨v,rfl,rfl,h9⟩
    refine hK _ _ (.inl rfl) ?_
    clear hK hah hS1
    refine rP 11 ?_ (y:=(yl_un evD rnD))
    refine wpL_done kRz ?_
    go_wp2_with fail
    go_ret
    refine ⟨_,rfl,false,rfl,⟨fun k=>(by cases k),fun k=>absurd (k m r1.x r2.x ?_ ?_) Hab.out⟩,h9.drop⟩
    ·rw [List.getElem?_map,Hx1.out];rfl
    ·rw [List.getElem?_map,Hx2.out];rfl
  ·have c1:¬ (m:Int)+1<(rs.length:Int):=by omega
   have Hlt:=uQ hlt
   clear hlt hm
   go_wp2
   go_ret
   refine ⟨_,rfl,.inr ⟨rfl,fun i a b ha hb=>?_,hS.drop⟩⟩
   have hi:=(List.getElem?_eq_some_iff.1 hb).1
   rw [List.length_map]at hi
   exact Hal.out i a b (by have:=Hlt.out;omega) ha hb
end
section
variable {P:Program}{w0 w:World}{L F:List HProp}{ops:Array Oper}{rest:List Oper}{a:Act}{Q:Exit→Act→World→Prop}{dst:Option Tmp}{t ty:TypeId}{pos:String}{after:Array Edge}{x y s:Operand}{v vx vy:Value}{l m:Bs}
theorem yl_slF (hx:a.eval x=vx) (hy:a.eval y=vy) (hr:∀ w,(Instr.sliceAt ty vx (some vy) none none).run P w = .ok v w):Yields P ops ⟨dst,.slice ty x (some y) none none,t,pos,after,none⟩ v a:=
 .inl ⟨want_none _ rfl,fun w=>by simp only [execOp,hx,hy,Option.map_some,Option.map_none,Sem.run_bind,hr,Result.andThen_ok,Sem.run_pure]⟩
theorem wl_mkB (l c:Nat) (h1:l≤c) (h2:c≤1099511627776) (hs:Sat w0 w L) (hx:a.eval x = .int .i64 l) (hy:a.eval y = .int .i64 c)
  (hK:∀ b w',Sat w0 w' (bsl (.slice (some ⟨b,0,none⟩) l c) (List.replicate l 0)::L)→wpList Tryz.prog ops Q rest (a.put dst (.slice (some ⟨b,0,none⟩) l c)) w') :
  wpList Tryz.prog ops Q (⟨dst,.makeSlice 24 x y,t,pos,after,none⟩::rest) a w:=by
 have hS:=hs.alloc (.cells (madeCells #[.int .u8 0] c) 5)
 refine wpList_plain rfl fun _ hK'=>?_
 unfold Oper.wp execOp
 simp only [hx,hy,make_u8 l c h1 h2,Sem.run_bind,Sem.run_pure,Result.andThen_ok]
 exact hK' _ _ (hK _ _ (made_bsl h1 h2 hS))
theorem at_mkB (h:Stop (wpList P ops Q (⟨dst,.makeSlice ty x y,t,pos,after,none⟩::rest) a w)):wpList P ops Q (⟨dst,.makeSlice ty x y,t,pos,after,none⟩::rest) a w:=h.out
theorem wl_apB (hs:Sat w0 w (bsl v l::F)) (hv:a.eval s=v) (hy:a.eval y=vy) (hx:rdsl 1 vy (bys m) w) (hlen:l.length+m.length≤1099511627776)
  (hK:∀ v' w',Sat w0 w' (bsl v' (l++m)::F)→wpList Tryz.prog ops Q rest (a.put dst v') w') :
  wpList Tryz.prog ops Q (⟨dst,.call { callee:= .builtin .append,args:=#[s,y],argTypes:=#[24,24] },24,pos,after,none⟩::rest) a w:=by
 obtain ⟨i,hi,hz0,hz1,hz2⟩:=info8p
 have h63:(bys l).length+(bys m).length≤maxLen:=by rw [bys_len,bys_len];unfold maxLen;omega
 have hby:((bys l).length+(bys m).length) * i.bytes≤140737488355328:=by rw [bys_len,bys_len,hz2];omega
 refine wpList_append (w0:=w0) rfl s y 24 rfl _ i _ Tryz.underlying24 hi hz0 hz1 rFz oQ hv hy (bys_one _) hs hx h63 hby ?_
 intro v' w' hS hn
 rw [← bys_append]at hS
 exact hK v' w' hS
end
section
variable {w0 w:World}{F:List HProp}{v bv rv:Value}{p n:Nat}{l:Bs}
theorem start5 (n:Nat):∃ x:Nat,IntKind.u64.wrap ((2870177450012600261:Int)+(n:Int))=(x:Int)∧x<18446744073709551616∧(2870177450012600261+n)%18446744073709551616=x:=by
 obtain ⟨x,a,b,c⟩:=start_ex 2870177450012600261 n
 unfold Xx.W at c
 exact ⟨x,(congrArg (fun z=>IntKind.u64.wrap (z+(n:Int))) (show (2870177450012600261:Int)=((2870177450012600261:Nat):Int) from rfl)).trans a,b,c⟩
set_option maxRecDepth 20000 in
theorem hshw_c (hl0:l≠[]) (hl:l.length≤1073741824) (hr:RS w0 F bv l) (h:Sat w0 w (hshPt p Xx.Ln.zero (.slice none 0 0) 0::F)) :
  Calls Tryz.prog 163 #[ptr p,bv] w (Rtn fun _ w'=>∃ rv bA cA,Sat w0 w' (hshPt p (Xx.goL l.length Xx.Ln.zero l).1 rv l.length::bsl (.slice (some ⟨bA,0,none⟩) l.length cA) l::F)∧RS w0 (bsl (.slice (some ⟨bA,0,none⟩) l.length cA) l::F) rv (Xx.goL l.length Xx.Ln.zero l).2):=by
 obtain ⟨ba,bc,rfl,hb1,hb2⟩:=(hr.more (G:=hshPt p Xx.Ln.zero (.slice none 0 0) 0::F) sbD).len h
 have Hr:=uQ hr;have Hl:=uQ hl;have Hl0:=uQ hl0
 have c0:w.cell? ⟨p,0,none⟩=some (.bool true):=h.cellAt 0 _ rfl
 have n1:IntKind.u64.wrap (l.length:Int)=(l.length:Int):=by rw [IntKind.wrap_u64];omega
 have n2:(l.length:Int)%18446744073709551616=(l.length:Int):=oQ
 have n3:IntKind.i64.wrap (l.length:Int)=(l.length:Int):=IntWalk.i64_in _ oQ
 clear hr hl hb1 hb2 hl0
 go_enter Tryz.func163,Tryz.ntmps163
 go_wp2_with (first
  |((with_reducible refine at_load ⟨?_⟩);refine wl_load1 h rFz pick0 nLz evD kRz ?_)
  |(with_reducible apply at_store))
 refine ⟨wl_store (v:= .int .u64 l.length) h rFz rFz rFz upd0 (by exact Nat.le_refl 8) kRz rFz ?_⟩
 intro w1 h1
 have h2:Sat w0 w1 (hshPt p Xx.Ln.zero (.slice none 0 0) l.length::F):=h1
 clear h h1 c0
 go_wp2_with (first
  |((with_reducible refine at_load ⟨?_⟩);refine wl_load1 h2 rFz pick0 nLz evD kRz ?_)
  |(with_reducible apply at_mkB))
 refine ⟨wl_mkB 0 l.length (Nat.zero_le _) (by have:=Hl.out;omega) h2 rFz rFz ?_⟩
 intro bM w3 h3
 go_wp2_with (first
  |((with_reducible refine at_load ⟨?_⟩);refine wl_load1 h3 rFz pick1 nLz evD kRz ?_)
  |(with_reducible apply at_append))
 refine ⟨wl_apB (m:=[]) h3 rFz rFz (rdsl_nil 1 0 _) (by simp) ?_⟩
 intro v4 w4 h4
 go_wp2_with (with_reducible apply at_append)
 refine ⟨wl_apB (m:=l) h4 rFz rFz (Hr.out.rd _ h4.drop.drop) (by simp only [List.replicate,List.append_nil,List.length_nil];have:=Hl.out;omega) ?_⟩
 intro v5 w5 h5
 have h6:Sat w0 w5 (bsl v5 l::hshPt p Xx.Ln.zero (.slice none 0 0) l.length::F):=h5
 clear h2 h3 h4 h5
 obtain ⟨bA,cA,rfl⟩:∃ bA cA,v5 = .slice (some ⟨bA,0,none⟩) l.length cA:=by
  rcases Sat.osl_cases h6 with ⟨_,he,_⟩|⟨b,n,cap,cs,he,k1,_⟩
  ·exfalso
   apply Hl0.out
   have:=congrArg List.length he
   rw [bys_len]at this
   exact List.eq_nil_of_length_eq_zero (by simpa using this)
  ·rw [bys_len,Nat.mul_one]at k1
   subst k1
   exact ⟨b,cap,he⟩
 have h7:Sat w0 w5 (hshPt p Xx.Ln.zero (.slice none 0 0) l.length::bsl (.slice (some ⟨bA,0,none⟩) l.length cA) l::F):=h6.sb
 have Hall:=uQ (show RS w0 (bsl (.slice (some ⟨bA,0,none⟩) l.length cA) l::F) (.slice (some ⟨bA,0,none⟩) l.length cA) l from RS.of_bsl h7.drop)
 clear h6
 go_wp2_with fail
 go_loopg [4] l.length (fun g aq wr=>∃ (ln:Xx.Ln) (m:Bs),g=m.length∧m.length≤l.length∧ln.lt∧RS w0 (bsl (.slice (some ⟨bA,0,none⟩) l.length cA) l::F) aq m∧Xx.goL l.length Xx.Ln.zero l=Xx.goL m.length ln m ∧
  Sat w0 wr (hshPt p ln (.slice none 0 0) l.length::bsl (.slice (some ⟨bA,0,none⟩) l.length cA) l::F))
 case atStart=>exact ⟨Xx.Ln.zero,l,rfl,Nat.le_refl _,Xx.zero_lt,Hall.out,rfl,h7⟩
 case round=>
  obtain ⟨⟨la,lb,lc,ld⟩,m,rfl,hml,hlt,hRS,heq,hS⟩:=hrel
  clear h7 Hall
  by_cases h32:32≤m.length
  ·obtain ⟨a,c,a4,c4,rfl,k1,k2,hrun4,rs4⟩:=cut_from hRS hS.drop h32
   obtain ⟨_,_,a0,c0,he,_,_,run0,rs0⟩:=cut_from hRS hS.drop (k:=0) oQ
   cases he
   obtain ⟨_,_,a1,c1,he,_,_,run1,rs1⟩:=cut_from hRS hS.drop (k:=8) oQ
   cases he
   obtain ⟨_,_,a2,c2,he,_,_,run2,rs2⟩:=cut_from hRS hS.drop (k:=16) oQ
   cases he
   obtain ⟨_,_,a3,c3,he,_,_,run3,rs3⟩:=cut_from hRS hS.drop (k:=24) oQ
   cases he
   have hst:Xx.goL m.length ⟨la,lb,lc,ld⟩ m=Xx.goL (m.drop 32).length (Xx.strip ⟨la,lb,lc,ld⟩ m) (m.drop 32):=by rw [Xx.goL_step h32 (Nat.le_refl _),List.length_drop]
   have hsl:=Xx.strip_lt ⟨la,lb,lc,ld⟩ m
   have hsp:Xx.strip ⟨la,lb,lc,ld⟩ m=⟨Xx.lane la (Frm.num ((m.drop 0).take 8)),Xx.lane lb (Frm.num ((m.drop 8).take 8)),Xx.lane lc (Frm.num ((m.drop 16).take 8)),Xx.lane ld (Frm.num ((m.drop 24).take 8))⟩:=rfl
   obtain ⟨N0,Hn0⟩:∃ N,Hid (Frm.num ((m.drop 0).take 8)=N):=⟨_,uQ rfl⟩
   obtain ⟨N1,Hn1⟩:∃ N,Hid (Frm.num ((m.drop 8).take 8)=N):=⟨_,uQ rfl⟩
   obtain ⟨N2,Hn2⟩:∃ N,Hid (Frm.num ((m.drop 16).take 8)=N):=⟨_,uQ rfl⟩
   obtain ⟨N3,Hn3⟩:∃ N,Hid (Frm.num ((m.drop 24).take 8)=N):=⟨_,uQ rfl⟩
   rw [Hn0.out,Hn1.out,Hn2.out,Hn3.out]at hsp
   obtain ⟨n0,Hl0'⟩:∃ N,Hid (Xx.lane la N0=N):=⟨_,uQ rfl⟩
   obtain ⟨n1',Hl1'⟩:∃ N,Hid (Xx.lane lb N1=N):=⟨_,uQ rfl⟩
   obtain ⟨n2',Hl2'⟩:∃ N,Hid (Xx.lane lc N2=N):=⟨_,uQ rfl⟩
   obtain ⟨n3',Hl3'⟩:∃ N,Hid (Xx.lane ld N3=N):=⟨_,uQ rfl⟩
   rw [Hl0'.out,Hl1'.out,Hl2'.out,Hl3'.out]at hsp
   rw [hsp]at hst hsl
   have Hst:=uQ (heq.trans hst);have Hsl:=uQ hsl;have Hrs4:=uQ rs4;have H32:=uQ h32
   have Hll:=uQ (show (m.drop 32).length<m.length∧(m.drop 32).length≤l.length by rw [List.length_drop];omega)
   replace rs0:=uQ rs0
   replace rs1:=uQ rs1
   replace rs2:=uQ rs2
   replace rs3:=uQ rs3
   replace run0:=uQ run0
   replace run1:=uQ run1
   replace run2:=uQ run2
   replace run3:=uQ run3
   have Hrun4:=uQ hrun4
   have cc:(32:Int)≤(m.length:Int):=oQ
   clear hst hsl hsp heq hRS rs4 hlt hml k1 k2 h32 hrun4
   go_wp2_with fail
   go_loopg [45] 4 (fun g iq wr=>∃ (i:Nat),g=4 - i∧i≤4∧iq = .int .i64 i∧Sat w0 wr ((match i with|0=>hshPt p ⟨la,lb,lc,ld⟩ (.slice none 0 0) l.length|1=>hshPt p ⟨n0,lb,lc,ld⟩ (.slice none 0 0) l.length|2=>hshPt p ⟨n0,n1',lc,ld⟩ (.slice none 0 0) l.length|3=>hshPt p ⟨n0,n1',n2',ld⟩ (.slice none 0 0) l.length|_=>hshPt p ⟨n0,n1',n2',n3'⟩ (.slice none 0 0) l.length)::bsl (.slice (some ⟨bA,0,none⟩) l.length cA) l::F))
   case atStart=>exact ⟨0,rfl,by omega,rfl,hS⟩
   case round=>
    obtain ⟨i,rfl,hi,rfl,hSi⟩:=hrel
    clear hS
    obtain rfl|rfl|rfl|rfl|rfl:i=0∨i=1∨i=2∨i=3∨i=4:=by omega
    ·have hw1:(8:Int) * 0=0:=by decide
     have hw2:IntKind.i64.wrap (0:Int)=(0:Int):=by decide
     have HG:=uQ (fun (w:World) (R:List HProp) (hS:Sat w0 w (hshPt p ⟨la,lb,lc,ld⟩ (.slice none 0 0) l.length::R))=>show w.cell? ⟨p,2,none⟩=some (.int .u64 la) from hS.cellAt 2 _ rfl)
     go_wp2_with fail
     have hS1:=hSi.drew
     clear hSi
     refine wpL_begin [13,16,17] (fun w'=>w'.cell? ⟨p,2,none⟩=some (.int .u64 la)) kRz ?_
     have hG:=HG.out _ _ hS1
     refine rP 0 ?_ (y:=mvQ)
     refine rP 1 ?_ (y:=mvQ)
     refine rP 2 ?_ (y:=mvQ)
     refine rP 3 ?_ (y:=mvQ)
     refine rP 4 ?_ (y:=nlQ)
     refine rP 5 ?_ (y:=flQ)
     refine rP 6 ?_ (y:=ixQ)
     refine rt 7 (h:=?_)
     refine rP 8 ?_ (y:=mvQ)
     refine rP 9 ?_ (y:=mvQ)
     refine rP 10 ?_ (y:=bnQ)
     refine rP 11 ?_ (y:=(yl_slF evD (by go_simp;first|done|rfl) run0.out))
     refine rP 14 ?_ (y:=nlQ)
     refine rP 15 ?_ (y:=flQ)
     clear hG
     refine rg_eff 12 evD kRz (fun K hK=>?_)
     (refine eff_call1 kRz evD ?_)
     refine (word_c (m.drop 0) (by rw [List.length_drop];have:=H32.out;omega) (rs0.out.more sbD) hS1).mono ?_
     rintro ee w12 ⟨v,rfl,rfl,rfl⟩
     refine hK _ _ (.inr (.inr rfl)) ?_
     clear hK
     rw [Hn0.out]
     refine rg_eff 13 evD kRz (fun K hK=>?_)
     (refine eff_call2 kRz evD evD ?_)
     refine (lane_c la N0 hS1).mono ?_
     rintro ee w13 ⟨v,rfl,rfl,h13⟩
     refine hK _ _ (.inl rfl) ?_
     clear hK hS1
     rw [Hl0'.out]
     refine rP 16 ?_ (y:=ixQ)
     refine rg_eff 17 evD kRz (fun K hK=>?_)
     refine eff_store (v:= .int .u64 n0) h13 evD evD rFz upd0 (by exact (by decide:3≤8)) kRz rFz ?_
     intro w17 h17
     refine hK _ _ (.inl rfl) ?_
     clear hK h13
     refine wpL_done kRz ?_
     try simp only [ayQ]
     try go_frame
     have h18:Sat w0 w17 (hshPt p ⟨n0,lb,lc,ld⟩ (.slice none 0 0) l.length::bsl (.slice (some ⟨bA,0,none⟩) l.length cA) l::F):=h17
     clear h17
     go_wp2_with fail
     go_roundg 3
     case measure=>omega
     case rel=>exact ⟨1,rfl,by omega,rfl,h18⟩
    ·have hw1:(8:Int) * 1=8:=by decide
     have hw2:IntKind.i64.wrap (8:Int)=(8:Int):=by decide
     have HG:=uQ (fun (w:World) (R:List HProp) (hS:Sat w0 w (hshPt p ⟨n0,lb,lc,ld⟩ (.slice none 0 0) l.length::R))=>show w.cell? ⟨p,3,none⟩=some (.int .u64 lb) from hS.cellAt 3 _ rfl)
     go_wp2_with fail
     have hS1:=hSi.drew
     clear hSi
     refine wpL_begin [13,16,17] (fun w'=>w'.cell? ⟨p,3,none⟩=some (.int .u64 lb)) kRz ?_
     have hG:=HG.out _ _ hS1
     refine rP 0 ?_ (y:=mvQ)
     refine rP 1 ?_ (y:=mvQ)
     refine rP 2 ?_ (y:=mvQ)
     refine rP 3 ?_ (y:=mvQ)
     refine rP 4 ?_ (y:=nlQ)
     refine rP 5 ?_ (y:=flQ)
     refine rP 6 ?_ (y:=ixQ)
     refine rt 7 (h:=?_)
     refine rP 8 ?_ (y:=mvQ)
     refine rP 9 ?_ (y:=mvQ)
     refine rP 10 ?_ (y:=bnQ)
     refine rP 11 ?_ (y:=(yl_slF evD (by go_simp;first|done|rfl) run1.out))
     refine rP 14 ?_ (y:=nlQ)
     refine rP 15 ?_ (y:=flQ)
     clear hG
     refine rg_eff 12 evD kRz (fun K hK=>?_)
     (refine eff_call1 kRz evD ?_)
     refine (word_c (m.drop 8) (by rw [List.length_drop];have:=H32.out;omega) (rs1.out.more sbD) hS1).mono ?_
     rintro ee w12 ⟨v,rfl,rfl,rfl⟩
     refine hK _ _ (.inr (.inr rfl)) ?_
     clear hK
     rw [Hn1.out]
     refine rg_eff 13 evD kRz (fun K hK=>?_)
     (refine eff_call2 kRz evD evD ?_)
     refine (lane_c lb N1 hS1).mono ?_
     rintro ee w13 ⟨v,rfl,rfl,h13⟩
     refine hK _ _ (.inl rfl) ?_
     clear hK hS1
     rw [Hl1'.out]
     refine rP 16 ?_ (y:=ixQ)
     refine rg_eff 17 evD kRz (fun K hK=>?_)
     refine eff_store (v:= .int .u64 n1') h13 evD evD rFz upd0 (by exact (by decide:4≤8)) kRz rFz ?_
     intro w17 h17
     refine hK _ _ (.inl rfl) ?_
     clear hK h13
     refine wpL_done kRz ?_
     try simp only [ayQ]
     try go_frame
     have h18:Sat w0 w17 (hshPt p ⟨n0,n1',lc,ld⟩ (.slice none 0 0) l.length::bsl (.slice (some ⟨bA,0,none⟩) l.length cA) l::F):=h17
     clear h17
     go_wp2_with fail
     go_roundg 2
     case measure=>omega
     case rel=>exact ⟨2,rfl,by omega,rfl,h18⟩
    ·have hw1:(8:Int) * 2=16:=by decide
     have hw2:IntKind.i64.wrap (16:Int)=(16:Int):=by decide
     have HG:=uQ (fun (w:World) (R:List HProp) (hS:Sat w0 w (hshPt p ⟨n0,n1',lc,ld⟩ (.slice none 0 0) l.length::R))=>show w.cell? ⟨p,4,none⟩=some (.int .u64 lc) from hS.cellAt 4 _ rfl)
     go_wp2_with fail
     have hS1:=hSi.drew
     clear hSi
     refine wpL_begin [13,16,17] (fun w'=>w'.cell? ⟨p,4,none⟩=some (.int .u64 lc)) kRz ?_
     have hG:=HG.out _ _ hS1
     refine rP 0 ?_ (y:=mvQ)
     refine rP 1 ?_ (y:=mvQ)
     refine rP 2 ?_ (y:=mvQ)
     refine rP 3 ?_ (y:=mvQ)
     refine rP 4 ?_ (y:=nlQ)
     refine rP 5 ?_ (y:=flQ)
     refine rP 6 ?_ (y:=ixQ)
     refine rt 7 (h:=?_)
     refine rP 8 ?_ (y:=mvQ)
     refine rP 9 ?_ (y:=mvQ)
     refine rP 10 ?_ (y:=bnQ)
     refine rP 11 ?_ (y:=(yl_slF evD (by go_simp;first|done|rfl) run2.out))
     refine rP 14 ?_ (y:=nlQ)
     refine rP 15 ?_ (y:=flQ)
     clear hG
     refine rg_eff 12 evD kRz (fun K hK=>?_)
     (refine eff_call1 kRz evD ?_)
     refine (word_c (m.drop 16) (by rw [List.length_drop];have:=H32.out;omega) (rs2.out.more sbD) hS1).mono ?_
     rintro ee w12 ⟨v,rfl,rfl,rfl⟩
     refine hK _ _ (.inr (.inr rfl)) ?_
     clear hK
     rw [Hn2.out]
     refine rg_eff 13 evD kRz (fun K hK=>?_)
     (refine eff_call2 kRz evD evD ?_)
     refine (lane_c lc N2 hS1).mono ?_
     rintro ee w13 ⟨v,rfl,rfl,h13⟩
     refine hK _ _ (.inl rfl) ?_
     clear hK hS1
     rw [Hl2'.out]
     refine rP 16 ?_ (y:=ixQ)
     refine rg_eff 17 evD kRz (fun K hK=>?_)
     refine eff_store (v:= .int .u64 n2') h13 evD evD rFz upd0 (by exact (by decide:5≤8)) kRz rFz ?_
     intro w17 h17
     refine hK _ _ (.inl rfl) ?_
     clear hK h13
     refine wpL_done kRz ?_
     try simp only [ayQ]
     try go_frame
     have h18:Sat w0 w17 (hshPt p ⟨n0,n1',n2',ld⟩ (.slice none 0 0) l.length::bsl (.slice (some ⟨bA,0,none⟩) l.length cA) l::F):=h17
     clear h17
     go_wp2_with fail
     go_roundg 1
     case measure=>omega
     case rel=>exact ⟨3,rfl,by omega,rfl,h18⟩
    ·have hw1:(8:Int) * 3=24:=by decide
     have hw2:IntKind.i64.wrap (24:Int)=(24:Int):=by decide
     have HG:=uQ (fun (w:World) (R:List HProp) (hS:Sat w0 w (hshPt p ⟨n0,n1',n2',ld⟩ (.slice none 0 0) l.length::R))=>show w.cell? ⟨p,5,none⟩=some (.int .u64 ld) from hS.cellAt 5 _ rfl)
     go_wp2_with fail
     have hS1:=hSi.drew
     clear hSi
     refine wpL_begin [13,16,17] (fun w'=>w'.cell? ⟨p,5,none⟩=some (.int .u64 ld)) kRz ?_
     have hG:=HG.out _ _ hS1
     refine rP 0 ?_ (y:=mvQ)
     refine rP 1 ?_ (y:=mvQ)
     refine rP 2 ?_ (y:=mvQ)
     refine rP 3 ?_ (y:=mvQ)
     refine rP 4 ?_ (y:=nlQ)
     refine rP 5 ?_ (y:=flQ)
     refine rP 6 ?_ (y:=ixQ)
     refine rt 7 (h:=?_)
     refine rP 8 ?_ (y:=mvQ)
     refine rP 9 ?_ (y:=mvQ)
     refine rP 10 ?_ (y:=bnQ)
     refine rP 11 ?_ (y:=(yl_slF evD (by go_simp;first|done|rfl) run3.out))
     refine rP 14 ?_ (y:=nlQ)
     refine rP 15 ?_ (y:=flQ)
     clear hG
     refine rg_eff 12 evD kRz (fun K hK=>?_)
     (refine eff_call1 kRz evD ?_)
     refine (word_c (m.drop 24) (by rw [List.length_drop];have:=H32.out;omega) (rs3.out.more sbD) hS1).mono ?_
     rintro ee w12 ⟨v,rfl,rfl,rfl⟩
     refine hK _ _ (.inr (.inr rfl)) ?_
     clear hK
     rw [Hn3.out]
     refine rg_eff 13 evD kRz (fun K hK=>?_)
     (refine eff_call2 kRz evD evD ?_)
     refine (lane_c ld N3 hS1).mono ?_
     rintro ee w13 ⟨v,rfl,rfl,h13⟩
     refine hK _ _ (.inl rfl) ?_
     clear hK hS1
     rw [Hl3'.out]
     refine rP 16 ?_ (y:=ixQ)
     refine rg_eff 17 evD kRz (fun K hK=>?_)
     refine eff_store (v:= .int .u64 n3') h13 evD evD rFz upd0 (by exact (by decide:6≤8)) kRz rFz ?_
     intro w17 h17
     refine hK _ _ (.inl rfl) ?_
     clear hK h13
     refine wpL_done kRz ?_
     try simp only [ayQ]
     try go_frame
     have h18:Sat w0 w17 (hshPt p ⟨n0,n1',n2',n3'⟩ (.slice none 0 0) l.length::bsl (.slice (some ⟨bA,0,none⟩) l.length cA) l::F):=h17
     clear h17
     go_wp2_with fail
     go_roundg 0
     case measure=>omega
     case rel=>exact ⟨4,rfl,by omega,rfl,h18⟩
    ·have hS4:Sat w0 wr (hshPt p ⟨n0,n1',n2',n3'⟩ (.slice none 0 0) l.length::bsl (.slice (some ⟨bA,0,none⟩) l.length cA) l::F):=hSi
     clear hSi
     go_wp2_with ((with_reducible refine at_slF ⟨?_⟩);refine wl_slF rFz rFz Hrun4.out ?_)
     go_roundg (m.drop 32).length
     case measure=>exact Hll.out.1
     case rel=>exact ⟨⟨n0,n1',n2',n3'⟩,m.drop 32,rfl,Hll.out.2,Hsl.out,by have k:=Hrs4.out;rw [List.length_drop]at k;exact k,Hst.out,hS4⟩
  ·have hst:=uQ (show Xx.goL l.length Xx.Ln.zero l=(⟨la,lb,lc,ld⟩,m) from heq.trans (Xx.goL_stop h32))
   have HRS:=uQ hRS
   obtain ⟨a,c,rfl,k1,k2⟩:=hRS.len hS.drop
   have cc:¬ (32:Int)≤(m.length:Int):=oQ
   clear heq hlt hml h32 hRS k1 k2
   go_wp2_with ((with_reducible refine at_store ⟨?_⟩);refine wl_store (v:= .slice a m.length c) hS rFz rFz rFz upd0 (by exact Nat.le_succ 7) kRz rFz ?_;intro w9 h9)
   go_end0
   exact ⟨_,rfl,.slice a m.length c,bA,cA,by rw [hst.out];exact h9,by rw [hst.out];exact HRS.out⟩
set_option maxRecDepth 20000 in
theorem hshs_c {ln:Xx.Ln}{m:Bs} (hln:ln.lt) (hn:n≤1073741824) (hm:m.length≤1073741824) (hr:RS w0 F rv m) (h:Sat w0 w (hshPt p ln rv n::F)):Calls Tryz.prog 164 #[ptr p] w (Rtn fun v w'=>v = .int .u64 (Xx.f3 (Xx.f2 (Xx.f1 (Xx.tail (((if 32≤n then Xx.joined ln else 2870177450012600261)+n)%18446744073709551616) m))):Nat)∧Sat w0 w' (hshPt p ln rv n::F)):=by
 obtain ⟨ra,rc,rfl,k1,k2⟩:=(hr.more (G:=hshPt p ln rv n::F) sbD).len h
 have Hr:=uQ (fun (w:World) (x:Nat) (hx:x<18446744073709551616) (hS:Sat w0 w (hshPt p ln (.slice ra m.length rc) n::F))=>xtail_c x hx m hm (hr.more sbD) hS)
 have c0:w.cell? ⟨p,0,none⟩=some (.bool true):=h.cellAt 0 _ rfl
 have Hj:=uQ (fun (w:World) (hS:Sat w0 w (hshPt p ln (.slice ra m.length rc) n::F))=>joined_c hln hS)
 have hHG:=uQ (fun (w:World) (hS:Sat w0 w (hshPt p ln (.slice ra m.length rc) n::F))=>show w.cell? ⟨p,7,none⟩=some (.int .u64 n)∧w.cell? ⟨p,6,none⟩=some (.slice ra m.length rc) from ⟨hS.cellAt 7 _ rfl,hS.cellAt 6 _ rfl⟩)
 have Hn:=uQ hn
 clear hr hm k1 k2 hn
 by_cases h32:32≤n
 ·rw [if_pos h32]
  generalize Xx.joined ln=J at *
  obtain ⟨x,e1,hx,e2⟩:=start_ex J n
  change (J+n)%18446744073709551616=x at e2
  rw [e2]
  have htl:Xx.tail x m<18446744073709551616:=Xx.tail_lt x m (show x<Xx.W from hx)
  have Htl:=uQ (fun (w:World) (hS:Sat w0 w (hshPt p ln (.slice ra m.length rc) n::F))=>Hr.out w x hx hS)
  generalize Xx.tail x m=y at *
  obtain ⟨t1,t2,t3,t4,t5,f1,f2,f3,f4,f5,f6⟩:=fin_ex htl
  have Hf6:=uQ f6;have He1:=uQ e1;have Hf:=uQ (And.intro f1 (And.intro f2 (And.intro f3 (And.intro f4 f5))))
  have ci:(32:Int)≤(n:Int):=oQ
  clear hx htl f6 e1 e2 f1 f2 f3 f4 f5 Hr h32 hln
  go_enter Tryz.func164,Tryz.ntmps164
  go_wp2_with ((with_reducible refine at_load ⟨?_⟩);refine wl_load1 h rFz pick0 nLz evD kRz ?_)
  refine (Hj.out _ h).mono ?_
  rintro ee w1 ⟨v,rfl,rfl,h1⟩
  clear h c0 Hj
  go_wp2_with fail
  have hS:=h1.drew
  clear h1
  refine wpL_begin [10,11] (fun w'=>w'.cell? ⟨p,7,none⟩=some (.int .u64 n)∧w'.cell? ⟨p,6,none⟩=some (.slice ra m.length rc)) kRz ?_
  have hG:=hHG.out _ hS
  refine rP 0 ?_ (y:=mvQ)
  refine rP 1 ?_ (y:=mvQ)
  refine rP 2 ?_ (y:=nlQ)
  refine rP 3 ?_ (y:=flQ)
  refine rt 4 (h:=?_)
  refine rp 5 (hy:=(yl_bin evD evD (by intro wq;have e1:=He1.out;(go_simp);first|done|exact wQ))) (h:=?_)
  refine rP 6 ?_ (y:=mvQ)
  refine rP 7 ?_ (y:=nlQ)
  refine rP 8 ?_ (y:=flQ)
  refine rt 9 (h:=?_)
  clear hG
  refine rg_eff 10 evD kRz (fun K hK=>?_)
  (refine eff_call2 kRz evD evD ?_)
  refine (Htl.out _ hS).mono ?_
  rintro ee w2 ⟨v,rfl,rfl,h2⟩
  refine hK _ _ (.inl rfl) ?_
  clear hK hS Htl
  refine rP 11 ?_ (y:=asQ)
  refine wpL_done kRz ?_
  try simp only [ayQ]
  try go_frame
  obtain ⟨f1,f2,f3,f4,f5⟩:=Hf.out
  go_wp2
  go_ret
  exact ⟨_,rfl,by rw [Hf6.out];rfl,h2⟩
 ·rw [if_neg h32]
  obtain ⟨x,e1,hx,e2⟩:=start5 n
  rw [e2]
  have htl:Xx.tail x m<18446744073709551616:=Xx.tail_lt x m (show x<Xx.W from hx)
  have Htl:=uQ (fun (w:World) (hS:Sat w0 w (hshPt p ln (.slice ra m.length rc) n::F))=>Hr.out w x hx hS)
  generalize Xx.tail x m=y at *
  obtain ⟨t1,t2,t3,t4,t5,f1,f2,f3,f4,f5,f6⟩:=fin_ex htl
  have Hf6:=uQ f6;have He1:=uQ e1;have Hf:=uQ (And.intro f1 (And.intro f2 (And.intro f3 (And.intro f4 f5))))
  have ci:¬ (32:Int)≤(n:Int):=oQ
  clear hx htl f6 e1 e2 f1 f2 f3 f4 f5 Hr h32 hln Hj
  go_enter Tryz.func164,Tryz.ntmps164
  go_wp2_with ((with_reducible refine at_load ⟨?_⟩);refine wl_load1 h rFz pick0 nLz evD kRz ?_)
  have h1:=h
  clear h c0
  go_wp2_with fail
  have hS:=h1.drew
  clear h1
  refine wpL_begin [10,11] (fun w'=>w'.cell? ⟨p,7,none⟩=some (.int .u64 n)∧w'.cell? ⟨p,6,none⟩=some (.slice ra m.length rc)) kRz ?_
  have hG:=hHG.out _ hS
  refine rP 0 ?_ (y:=mvQ)
  refine rP 1 ?_ (y:=mvQ)
  refine rP 2 ?_ (y:=nlQ)
  refine rP 3 ?_ (y:=flQ)
  refine rt 4 (h:=?_)
  refine rp 5 (hy:=(yl_bin evD evD (by intro wq;have e1:=He1.out;(go_simp);first|done|exact wQ))) (h:=?_)
  refine rP 6 ?_ (y:=mvQ)
  refine rP 7 ?_ (y:=nlQ)
  refine rP 8 ?_ (y:=flQ)
  refine rt 9 (h:=?_)
  clear hG
  refine rg_eff 10 evD kRz (fun K hK=>?_)
  (refine eff_call2 kRz evD evD ?_)
  refine (Htl.out _ hS).mono ?_
  rintro ee w2 ⟨v,rfl,rfl,h2⟩
  refine hK _ _ (.inl rfl) ?_
  clear hK hS Htl
  refine rP 11 ?_ (y:=asQ)
  refine wpL_done kRz ?_
  try simp only [ayQ]
  try go_frame
  obtain ⟨f1,f2,f3,f4,f5⟩:=Hf.out
  go_wp2
  go_ret
  exact ⟨_,rfl,by rw [Hf6.out];rfl,h2⟩
theorem xsum_c (hl0:l≠[]) (hl:l.length≤1073741824) (hr:RS w0 F bv l) (h:Sat w0 w F):Calls Tryz.prog 139 #[bv,.int .u64 0] w (Rtn fun v w'=>v = .int .u64 (Xx.sum l:Nat)∧Sat w0 w' F):=by
 obtain ⟨ba,bc,rfl,_,_⟩:=hr.len h
 have Hr:=uQ hr;have Hl:=uQ hl;have Hl0:=uQ hl0
 have Hz:=uQ (show Xx.sum l=Xx.f3 (Xx.f2 (Xx.f1 (Xx.tail (((if 32≤l.length then Xx.joined (Xx.goL l.length Xx.Ln.zero l).1 else 2870177450012600261)+l.length)%18446744073709551616) (Xx.goL l.length Xx.Ln.zero l).2))) from rfl)
 clear hr hl hl0
 go_enter Tryz.func139,Tryz.ntmps139
 go_wp2_with fail
 refine (newh_c h).mono ?_
 rintro ee w1 ⟨v,rfl,p,rfl,h1⟩
 go_wp2_with fail
 refine (hshw_c Hl0.out Hl.out Hr.out h1).mono ?_
 rintro ee w2 ⟨v,rfl,rv,bA,cA,h2,hrs⟩
 have hgl:=Xx.goL_lt l.length Xx.Ln.zero l Xx.zero_lt
 have hlen:(Xx.goL l.length Xx.Ln.zero l).2.length≤1073741824:=Nat.le_trans (Xx.goL_len2 l.length Xx.Ln.zero l) Hl.out
 have hs:=hshs_c hgl Hl.out hlen hrs h2
 rw [← Hz.out]at hs
 clear hgl hlen hrs h h1 h2 Hz
 go_wp2_with fail
 refine hs.mono ?_
 rintro ee w3 ⟨v,rfl,rfl,h3⟩
 clear hs
 go_wp2
 go_ret
 exact ⟨_,rfl,rfl,h3.drop.drop⟩
end
end Go.Proofs.YtfdchfnmpabogaaGreatDoor
namespace Go.Sl
open Go
section
variable {P:Program}{ops:Array Oper}{Q:Exit→Act→World→Prop}{late:List Nat}{G:World→Prop}{n:Nat}{l:Array Bool}{a:Act}{w:World}{oi oj:Oper}
theorem rg_eff2 (i j:Nat) (hi:ops.toList[i]?=some oi) (hj:ops.toList[j]?=some oj) (hr:Region.ready .any ops l=[i,j])
  (h1:∀ K:Act→World→Prop,(∀ a' w',keeps late G i w w'→wpL P ops Q late G n (l.setIfInBounds i true) a' w'→K a' w') →
   if Region.wanted oi (yielded ops a.tmps)=true then Oper.wp P oi a w K Q else K (a.put oi.dst undef) w)
  (h2:∀ K:Act→World→Prop,(∀ a' w',keeps late G j w w'→wpL P ops Q late G n (l.setIfInBounds j true) a' w'→K a' w') →
   if Region.wanted oj (yielded ops a.tmps)=true then Oper.wp P oj a w K Q else K (a.put oj.dst undef) w):wpL P ops Q late G (n+1) l a w:=by
 rw [Array.getElem?_toList]at hi hj
 refine ⟨(fun h0=>by rw [hr]at h0;cases h0),fun k hk=>?_⟩
 rw [hr]at hk
 have hk2:k=i∨k=j:=by simpa using hk
 rcases hk2 with rfl|rfl
 ·have:=h1 _ (fun a' w' h1 h2=>And.intro h1 h2)
  unfold wpOp
  rw [hi]
  show if Region.wanted oi (yielded ops a.tmps)=true then _ else _
  split
  ·rename_i hw;rw [if_pos hw]at this;exact .inl this
  ·rename_i hw;rw [if_neg hw]at this;exact this
 ·have:=h2 _ (fun a' w' h1 h2=>And.intro h1 h2)
  unfold wpOp
  rw [hj]
  show if Region.wanted oj (yielded ops a.tmps)=true then _ else _
  split
  ·rename_i hw;rw [if_pos hw]at this;exact .inl this
  ·rename_i hw;rw [if_neg hw]at this;exact this
end
end Go.Sl
namespace Go.Proofs.YtfdchfnmpabogaaGreatDoor
open Go Go.Sl Go.Med Go.MapKept Go.RowKit
section
variable {P:Program}{w0 w:World}{L F:List HProp}{ops:Array Oper}{rest:List Oper}{a:Act}{Q:Exit→Act→World→Prop}{K:Act→World→Prop}{E:Prop}{dst:Option Tmp}{t ty:TypeId}{pos:String}{after:Array Edge}{x y s:Operand}{v vy:Value}{l m:Bs}
theorem wp_appA (hs:Sat w0 w (abl v l::F)) (hv:a.eval s=v) (hy:a.eval y=vy) (hx:rdsl 1 vy (bys m) w) (hm:m≠[]) (hlen:l.length+m.length≤1099511627776) (hK:∀ v' w',Sat w0 w' (abl v' (l++m)::F)→K (a.put dst v') w') :
  Oper.wp Tryz.prog ⟨dst,.call { callee:= .builtin .append,args:=#[s,y],argTypes:=#[24,24] },24,pos,after,none⟩ a w K Q:=by
 obtain ⟨i,hi,hz0,hz1,hz2⟩:=info8p
 have h63:(bys l).length+(bys m).length≤maxLen:=by rw [bys_len,bys_len];unfold maxLen;omega
 have hby:((bys l).length+(bys m).length) * i.bytes≤140737488355328:=by rw [bys_len,bys_len,hz2];omega
 obtain ⟨v',w',hr,hS⟩:=run_appendA (P:=Tryz.prog) 24 24 5 i _ Tryz.underlying24 hi hz0 hz1 rFz oQ (bys_one _) (fun e=>hm (by cases m with|nil=>rfl|cons z r=>cases e)) hs hx h63 hby
 rw [← bys_append]at hS
 unfold Oper.wp execOp
 simp only [resolve,invoke,builtin,Sem.run_bind,Sem.run_pure,Result.andThen_ok,List.map_toArray,List.map_cons,List.map_nil,hv,hy,hr]
 exact hK _ _ hS
theorem eff_appA (hs:Sat w0 w (abl v l::F)) (hv:a.eval s=v) (hy:a.eval y=vy) (hx:rdsl 1 vy (bys m) w) (hm:m≠[]) (hlen:l.length+m.length≤1099511627776) (hK:∀ v' w',Sat w0 w' (abl v' (l++m)::F)→K (a.put dst v') w') :
  if Region.wanted ⟨dst,.call { callee:= .builtin .append,args:=#[s,y],argTypes:=#[24,24] },24,pos,after,none⟩ (yielded ops a.tmps)=true then
   Oper.wp Tryz.prog ⟨dst,.call { callee:= .builtin .append,args:=#[s,y],argTypes:=#[24,24] },24,pos,after,none⟩ a w K Q else E:=eff_of rfl (wp_appA hs hv hy hx hm hlen hK)
theorem wl_appA (hs:Sat w0 w (abl v l::F)) (hv:a.eval s=v) (hy:a.eval y=vy) (hx:rdsl 1 vy (bys m) w) (hm:m≠[]) (hlen:l.length+m.length≤1099511627776) (hK:∀ v' w',Sat w0 w' (abl v' (l++m)::F)→wpList Tryz.prog ops Q rest (a.put dst v') w') :
  wpList Tryz.prog ops Q (⟨dst,.call { callee:= .builtin .append,args:=#[s,y],argTypes:=#[24,24] },24,pos,after,none⟩::rest) a w:=
 wpList_plain rfl fun _ hK'=>wp_appA hs hv hy hx hm hlen fun v' w' h=>hK' _ _ (hK v' w' h)
theorem abl_eq (h:Sat w0 w (abl v l::F)) (e:l=m):Sat w0 w (abl v m::F):=e ▸ h
theorem abl_nil (h:Sat w0 w (abl v l::F)):Sat w0 w (abl v (l++[])::F):=by rw [List.append_nil];exact h
theorem at_sl0 (h:Stop (wpList P ops Q (⟨dst,.slice ty x none none none,t,pos,after,none⟩::rest) a w)):wpList P ops Q (⟨dst,.slice ty x none none none,t,pos,after,none⟩::rest) a w:=h.out
theorem wl_sl0 (hx:a.eval x=v) (hr:∀ w,(Instr.sliceAt ty v none none none).run P w = .ok vy w) (h:wpList P ops Q rest (a.put dst vy) w):wpList P ops Q (⟨dst,.slice ty x none none none,t,pos,after,none⟩::rest) a w:=
 wpList_plain rfl fun _ hK=>by
  unfold Oper.wp execOp
  simp only [hx,Option.map_none,Sem.run_bind,hr,Result.andThen_ok,Sem.run_pure]
  exact hK _ _ h
theorem at_appA (h:Stop (wpList P ops Q (⟨dst,.call { callee:= .builtin .append,args:=#[s,y],argTypes:=#[24,24] },t,pos,after,none⟩::rest) a w)):wpList P ops Q (⟨dst,.call { callee:= .builtin .append,args:=#[s,y],argTypes:=#[24,24] },t,pos,after,none⟩::rest) a w:=h.out
set_option maxRecDepth 20000 in
theorem eff_text (sb:ByteArray) (hl:sb.data.toList=l) (hle:l.length≤1073741824) (hs:Sat w0 w F) (hx:a.eval x = .string sb) (hK:∀ v' w',Sat w0 w' (abl v' l::F)→K (a.put dst v') w') :
  if Region.wanted ⟨dst,.convert 9 24 x,t,pos,after,none⟩ (yielded ops a.tmps)=true then Oper.wp Tryz.prog ⟨dst,.convert 9 24 x,t,pos,after,none⟩ a w K Q else E:=by
 refine eff_of rfl ?_
 have hr:=Lib.run_convert_string_bytes (P:=Tryz.prog) w 9 24 5 sb Tryz.underlying9 Tryz.underlying24 Tryz.underlying5
 unfold Oper.wp execOp
 simp only [hx,Sem.run_bind,hr,Result.andThen_ok,Sem.run_pure]
 exact hK _ _ (asl_text hs 5 sb l hl hle)
theorem RS.of_abl (h:Sat w0 w (abl v l::F)):RS w0 (abl v l::F) v l:=by
 refine ⟨fun w hw=>asl_rd hw,?_⟩
 rcases asl_cases h with h|⟨b,n,cap,cs,m,rfl,hl,hn,hc,hcm,htk,hmk,hp⟩
 ·obtain ⟨a,n,c,e,h1,h2,h3⟩:=bsl_cap' h
  exact ⟨a,n,c,e,h1,h2⟩
 ·exact ⟨_,n,cap,rfl,hn,hcm⟩
end
section
variable {w0 w:World}{F:List HProp}{lv:Value}
theorem rvS (r:RV) (h:r.x.key.length=32):(rvL r).toArray.size=33:=by rw [List.size_toArray];exact rvL_len r h
theorem rvG (r:RV) (h:r.x.key.length=32):(rvL r).toArray.getD 32 undef=r.nv:=by
 rw [Array.getD_eq_getD_getElem?,show (rvL r).toArray[32]?=some r.nv from rw_nums (x:=r.x) (nv:=r.nv) h];rfl
theorem rvOnes {w:World}{r:RV} (h:rdsl 1 r.nv (ints r.x.nums) w):(rvL r).toArray.toList.all (·.oneCell')=true:=by
 obtain ⟨a,n,c,e,_⟩:=h
 unfold rvL
 rw [e]
 rw [List.toList_toArray,List.all_append,bys_ones];rfl
def zeroRV:RV:=⟨⟨Frm.zero32,[]⟩,.slice none 0 0⟩
theorem zBRow:zeroB Tryz.prog 185=some (.agg (rvL zeroRV).toArray):=by kernel_rfl
theorem ints_cellB {w:World}{sv:Value}{l:List Int}{i:Nat}{s:Int} (h:rdsl 1 sv (ints l) w) (hs:l[i]?=some s):∃ bk off c,sv = .slice (some ⟨bk,off,none⟩) l.length c∧w.cell? ⟨bk,off+i,none⟩=some (.int .i64 s):=by
 obtain ⟨bk,off,cc,hsv,hcell⟩:=osl_row (f:=fun i:Int=>[Value.int .i64 i]) (k:=1) (l:=l) (fun u _=>rfl) (by rw [show ints l=l.flatMap fun i=>[Value.int .i64 i] from by unfold ints;exact List.map_eq_flatMap]at h;exact h) hs dCz
 have f0:=hcell 0 _ rfl
 rw [Nat.mul_one,Nat.add_zero]at f0
 exact ⟨bk,off,cc,hsv,f0⟩
theorem ints_slB {w:World}{sv:Value}{l:List Int} (h:rdsl 1 sv (ints l) w):∃ a c,sv = .slice a l.length c:=
 osl_rows (f:=fun i:Int=>[Value.int .i64 i]) (k:=1) (l:=l) (fun u _=>rfl) (by rw [show ints l=l.flatMap fun i=>[Value.int .i64 i] from by unfold ints;exact List.map_eq_flatMap]at h;exact h) dCz
set_option maxRecDepth 20000 in
theorem bwrite_c (mgb:ByteArray) (mg:Bs) (hmb:mgb.data.toList=mg) (hm8:mg.length=8) (kd:Bool) (k:Nat) (hk:k≤3) (rs:List RV) (hok:Bok.Ok k kd (rs.map (·.x))) (hr:Ro w0 F (rdsl 33 lv (rs.flatMap rvL))) (he:∀ r∈rs,RVRo w0 F r) (h:Sat w0 w F) :
  Calls Tryz.prog 101 #[.agg (kndA mgb kd k),lv] w (Rtn fun v w'=>∃ bv,v = .tuple #[bv,errno 0]∧Sat w0 w' (abl bv (Bok.book Xx.sum mg kd (rs.map (·.x)))::F)):=by
 obtain ⟨la,lc,rfl⟩:=osl_rows (fun r hr=>rvL_len r (he r hr).key) (hr w h) dCz
 have hn:rs.length≤65536:=by have:=hok.len;rwa [List.length_map]at this
 have Hr:=uQ hr;have He:=uQ he;have Hn:=uQ hn;have Hok:=uQ hok;have Hmb:=uQ hmb;have Hm8:=uQ hm8
 have c1:¬ (65536:Int)<(rs.length:Int):=oQ
 have c2:IntKind.u64.wrap (rs.length:Int)=(rs.length:Int):=by rw [IntKind.wrap_u64];omega
 clear hr he hn hok hmb hm8
 go_enter Tryz.func101,Tryz.ntmps101
 go_wp2_with (with_reducible apply at_box)
 refine ⟨wl_box h evD evD ?_⟩
 intro b2 w2 hS0
 replace hS0:Sat w0 w2 (pt b2 (.cells (kndA mgb kd k) 177 (0,0))::F):=hS0
 clear h
 go_wp2_with fail
 have hS1:=hS0.drew
 clear hS0
 have hG0:=hS1.cellAt 0 (.string mgb) rfl
 refine wpL_begin [2,7,8] (fun w'=>w'.cell? ⟨b2,0,none⟩=some (.string mgb)) kRz ?_
 have hG:=hG0
 refine rP 0 ?_ (y:=flQ)
 refine rt 1 (h:=?_)
 clear hG
 refine rP 3 ?_ (y:=mvQ)
 refine rP 4 ?_ (y:=(yl_len evD rnD))
 refine rP 5 ?_ (y:=(yl_conv evD rnD))
 refine rg_eff2 2 6 evD evD kRz (fun K hK=>?_) (fun K hK=>?_)
 focus
  refine eff_text mgb Hmb.out (by rw [Hm8.out];decide) hS1 evD ?_
  intro v16 w3 h3
  refine hK _ _ (.inl rfl) ?_
  clear hK hS1 hG0
  refine rg_eff 6 evD kRz (fun K hK=>?_)
  (refine eff_call2 kRz evD evD ?_)
  refine (put4_c rs.length (by have:=Hn.out;omega) h3).mono ?_
  rintro ee w4 ⟨v,rfl,h4,_⟩
  refine hK _ _ (.inr (.inl ((h4.drop.drop).cellAt 0 (.string mgb) rfl))) ?_
  clear hK h3
  refine rg_eff 7 evD kRz (fun K hK=>?_)
  refine eff_appA (h4.sb:Sat w0 _ (abl v16 mg::bsl v (Frm.le rs.length 4)::pt b2 (.cells (kndA mgb kd k) 177 (0,0))::F)) evD evD (Sat.rd h4) (fun e=>by cases e) (by rw [Hm8.out,Frm.le_len];decide) ?_
  intro v6 w5 h5
  refine hK _ _ (.inl rfl) ?_
  clear hK h4
  refine rP 8 ?_ (y:=asQ)
  refine wpL_done kRz ?_
  try simp only [ayQ]
  try go_frame
  have hB:Sat w0 w5 (abl v6 (mg++Frm.le rs.length 4)::pt b2 (.cells (kndA mgb kd k) 177 (0,0))::F):=h5.sb
  clear h5
 rotate_left
 focus
  (refine eff_call2 kRz evD evD ?_)
  refine (put4_c rs.length (by have:=Hn.out;omega) hS1).mono ?_
  rintro ee w4 ⟨v,rfl,h4,_⟩
  refine hK _ _ (.inr (.inl ((h4.drop).cellAt 0 (.string mgb) rfl))) ?_
  clear hK hS1 hG0
  refine rg_eff 2 evD kRz (fun K hK=>?_)
  refine eff_text mgb Hmb.out (by rw [Hm8.out];decide) h4 evD ?_
  intro v16 w3 h3
  refine hK _ _ (.inl rfl) ?_
  clear hK h4
  refine rg_eff 7 evD kRz (fun K hK=>?_)
  refine eff_appA (h3.sb:Sat w0 _ (abl v16 mg::bsl v (Frm.le rs.length 4)::pt b2 (.cells (kndA mgb kd k) 177 (0,0))::F)) evD evD (Sat.rd h3.drop) (fun e=>by cases e) (by rw [Hm8.out,Frm.le_len];decide) ?_
  intro v6 w5 h5
  refine hK _ _ (.inl rfl) ?_
  clear hK h3
  refine rP 8 ?_ (y:=asQ)
  refine wpL_done kRz ?_
  try simp only [ayQ]
  try go_frame
  have hB:Sat w0 w5 (abl v6 (mg++Frm.le rs.length 4)::pt b2 (.cells (kndA mgb kd k) 177 (0,0))::F):=h5.sb
  clear h5
 all_goals
  as_aux_lemma=>
   have hX0:=uQ hB
   go_wp2_with fail
   go_loopg [6,24] rs.length (fun g bq iq wr=>∃ (i:Nat) (bv:Value),g=rs.length - i∧i≤rs.length∧bv=bq∧iq = .int .i64 i∧Sat w0 wr (abl bv (mg++Frm.le rs.length 4++Bok.rowsB kd ((rs.map (·.x)).take i))::pt b2 (.cells (kndA mgb kd k) 177 (0,0))::F))
   case atStart=>exact ⟨0,_,rfl,Nat.zero_le _,rfl,rfl,by rw [List.take_zero,Bok.rowsB_nil,List.append_nil];exact hB⟩
   case round=>
    obtain ⟨i,bv,rfl,hi,rfl,rfl,hS⟩:=hrel
    clear hB hX0
    by_cases hlt:i<rs.length
    ·as_aux_lemma=>
     have c3:(i:Int)<(rs.length:Int):=oQ
     have hwi:IntKind.i64.wrap ((i:Int)+1)=(i:Int)+1:=IntWalk.i64_in _ (by have:=Hn.out;omega)
     obtain ⟨r,hx⟩:∃ q,rs[i]?=some q:=⟨_,List.getElem?_eq_getElem hlt⟩
     have H1:=uQ (He.out r (List.mem_of_getElem? hx))
     have Hro:=uQ (Hok.out.row r.x (List.mem_map_of_mem (List.mem_of_getElem? hx)))
     have htk:=Bok.rowsB_take (kd:=kd) (show (rs.map (·.x))[i]?=some r.x by rw [List.getElem?_map,hx];rfl)
     have hXl:(mg++Frm.le rs.length 4++Bok.rowsB kd ((rs.map (·.x)).take i)).length≤3000000:=by
      rw [List.length_append,List.length_append,Hm8.out,Frm.le_len,Bok.rowsB_len _ (fun q hq=>Hok.out.row q (List.mem_of_mem_take hq)),List.length_take,List.length_map]
      have h1:=Hn.out
      have h2:min i rs.length * Bok.rowSz kd k≤65536 * 44:=Nat.mul_le_mul oQ (Bok.rowSz_le hk)
      omega
     obtain ⟨bk,off,c',hsv,hcell⟩:=osl_row (f:=rvL) (k:=33) (fun r hr=>rvL_len r (He.out r hr).key) (Hr.out _ hS.drop.drop) hx dCz
     cases hsv
     have htk2:mg++Frm.le rs.length 4++Bok.rowsB kd ((rs.map (·.x)).take (i+1))=(mg++Frm.le rs.length 4++Bok.rowsB kd ((rs.map (·.x)).take i))++(if kd then r.x.key else [])++Bok.numsB r.x.nums:=by
      rw [htk];unfold Bok.rowB;simp only [List.append_assoc]
     generalize mg++Frm.le rs.length 4++Bok.rowsB kd ((rs.map (·.x)).take i)=X at *
     have Htk0:=uQ htk2;have HX:=uQ hXl;have Hlt:=uQ hlt
     clear hx htk htk2 hXl hlt hi
     go_wp2_with (first
      |((with_reducible refine at_load ⟨?_⟩);refine wl_loadW (b:=bk) (o:=off+i * 33) (rvL r) rFz hcell Tryz.underlying185 rfl (by rw [rvL_len _ H1.out.key];kernel_rfl) ?_)
      |(with_reducible apply at_alloc))
     refine ⟨wl_alloc zBRow hS rfl ?_⟩
     intro b8 w8 h8
     clear hS hcell
     go_wp2_with (with_reducible apply at_store)
     refine ⟨wl_storeA (rvL r).toArray h8 rFz rFz (by rw [rvS _ H1.out.key];rfl) upd0 (by rw [rvS _ H1.out.key];kernel_rfl) (rvOnes (H1.out.rd _ h8.drop.drop.drop)) ?_⟩
     intro w9 h9
     clear h8
     have hgd:(rvL r).toArray.getD 32 undef=r.nv:=rvG _ H1.out.key
     obtain ⟨kb,hkb⟩:∃ kb,Hid (kd=kb):=⟨_,uQ rfl⟩
     cases kd
     focus
      have hQ:=abl_nil (h9.pick pick1)
      have Htk:=uQ (show mg++Frm.le rs.length 4++Bok.rowsB false ((rs.map (·.x)).take (i+1))=X++[]++Bok.numsB r.x.nums from Htk0.out)
      have HY:=uQ (show (X++([]:Bs)).length≤3000100 by rw [List.append_nil];have:=HX.out;omega)
      generalize X++([]:Bs)=Y at *
      clear h9 Htk0 HX
     rotate_left
     focus
      have hrd:rdsl 1 (.slice (some ⟨b8,0,none⟩) 32 32) (bys r.x.key) w9:=⟨_,_,_,rfl,by rw [bys_len,H1.out.key],fun j z hj=>⟨_,rfl,by rw [adr_add,Nat.zero_add];exact h9.cellP pick0 j (rw_key hj)⟩⟩
      have Htk:=uQ (show mg++Frm.le rs.length 4++Bok.rowsB true ((rs.map (·.x)).take (i+1))=X++r.x.key++Bok.numsB r.x.nums from Htk0.out)
      have HY:=uQ (show (X++r.x.key).length≤3000100 by rw [List.length_append,H1.out.key];have:=HX.out;omega)
      have hsl:∀ w,(Instr.sliceAt 23 (.pointer (some ⟨b8,0,none⟩)) none none none).run Tryz.prog w = .ok (.slice (some ⟨b8,0,none⟩) 32 32) w:=fun w=>by kernel_rfl
      go_wp2_with (first
       |((with_reducible refine at_load ⟨?_⟩);refine wl_load1 h9 rFz (pick_there pick1) nLz evD kRz ?_)
       |(with_reducible apply at_sl0))
      refine ⟨wl_sl0 rFz hsl ?_⟩
      refine wl_appA (m:=r.x.key) (h9.pick pick1) rFz rFz hrd (fun e=>by have:=H1.out.key;rw [e]at this;cases this) (by rw [H1.out.key];have:=HX.out;omega) ?_
      intro v33 w10 hQ
      generalize X++r.x.key=Y at *
      clear h9 Htk0 HX hrd
     all_goals
      obtain ⟨na,nc,hnv⟩:=ints_slB (H1.out.rd _ (hQ.drop.drop.drop))
      rw [hnv]at hgd
      have Hnv:=uQ hnv
      go_wp2_with ((with_reducible refine at_load ⟨?_⟩);first|refine wl_load1 (o:=32) hQ rFz pick1 (by rw [rvS _ H1.out.key];decide) hgd kRz ?_|refine wl_load1 hQ rFz (pick_there pick1) nLz evD kRz ?_)
      clear hgd
      rw [hkb.out]at hQ
      go_loopg [6,37] r.x.nums.length (fun g bq jq wr=>∃ (j:Nat) (cv:Value),g=r.x.nums.length - j∧j≤r.x.nums.length∧cv=bq∧jq = .int .i64 j∧Sat w0 wr (abl cv (Y++Bok.numsB (r.x.nums.take j))::pt b8 (.cells (rvL r).toArray 185 (0,0))::pt b2 (.cells (kndA mgb kb k) 177 (0,0))::F))
      case atStart=>exact ⟨0,_,rfl,Nat.zero_le _,rfl,rfl,by rw [List.take_zero,Bok.numsB_nil,List.append_nil];exact hQ⟩
      case round=>
       obtain ⟨j,cv,rfl,hj,rfl,rfl,hSj⟩:=hrel
       clear hQ
       by_cases hjl:j<r.x.nums.length
       ·obtain ⟨n,hn⟩:∃ n,r.x.nums[j]?=some n:=⟨_,List.getElem?_eq_getElem hjl⟩
        have hnb:=Hro.out.num n (List.mem_of_getElem? hn)
        obtain ⟨bk2,of2,cc2,e2,hcj⟩:=ints_cellB (H1.out.rd _ (hSj.drop.drop.drop)) hn
        rw [Hnv.out]at e2
        cases e2
        have Hnk:=uQ (Bok.numsB_take hn)
        obtain ⟨x,rfl⟩:∃ x:Nat,n=(x:Int):=⟨n.toNat,by omega⟩
        have d1:decide ((x:Int)<0)=false:=by rw [decide_eq_false_iff_not];omega
        have d2:decide ((4294967295:Int)<(x:Int))=false:=by rw [decide_eq_false_iff_not];omega
        have d3:¬ (x:Int)<0:=oQ
        have d4:¬ (4294967295:Int)<(x:Int):=oQ
        have d5:IntKind.u64.wrap (x:Int)=(x:Int):=by rw [IntKind.wrap_u64];omega
        have c4:(j:Int)<(r.x.nums.length:Int):=oQ
        have hwj:IntKind.i64.wrap ((j:Int)+1)=(j:Int)+1:=IntWalk.i64_in _ (by have:=Hro.out.len;omega)
        have Hpu:=uQ (fun (w':World) (R:List HProp) (hw:Sat w0 w' R)=>put4_c x oQ hw)
        have hyl:(Y++Bok.numsB (r.x.nums.take j)).length≤4000000:=by rw [List.length_append,Bok.numsB_len,List.length_take];have:=Hro.out.len;have:=HY.out;omega
        have Hyl:=uQ hyl;have Hjl:=uQ hjl
        clear hn hnb hjl hj hyl
        go_wp2_with fail
        refine (Hpu.out _ _ hSj).mono ?_
        rintro ee w5 ⟨v,rfl,h5,_⟩
        clear Hpu hcj hSj
        go_wp2_with (with_reducible apply at_appA)
        refine ⟨wl_appA (m:=Frm.le x 4) (h5.pick pick1) rFz rFz (Sat.rd h5) (fun e=>by cases e) (by rw [Frm.le_len];have:=Hyl.out;omega) ?_⟩
        intro v6 w6 h6
        go_wp2_with fail
        go_roundg (r.x.nums.length - (j+1))
        case measure=>have:=Hjl.out;omega
        case rel=>exact ⟨j+1,_,rfl,Nat.succ_le_of_lt Hjl.out,rfl,by first|rfl|go_num,by rw [Hnk.out,← List.append_assoc];exact h6.sb⟩
       ·have c4:¬ (j:Int)<(r.x.nums.length:Int):=by omega
        obtain rfl:j=r.x.nums.length:=by omega
        rw [List.take_length]at hSj
        clear hj hjl
        go_wp2_with fail
        go_roundg (rs.length - (i+1))
        case measure=>have:=Hlt.out;omega
        case rel=>exact ⟨i+1,_,rfl,Nat.succ_le_of_lt Hlt.out,rfl,by first|rfl|go_num,by rw [Htk.out];rw [← hkb.out]at hSj;exact hSj.sb⟩
    ·as_aux_lemma=>
     have c3:¬ (i:Int)<(rs.length:Int):=oQ
     obtain rfl:i=rs.length:=by omega
     have eb:mg++Frm.le rs.length 4++Bok.rowsB kd ((rs.map (·.x)).take rs.length)=Bok.body mg kd (rs.map (·.x)):=by
      unfold Bok.body
      rw [List.take_of_length_le (by rw [List.length_map];exact Nat.le_refl _),List.length_map]
     have hSb:=abl_eq hS eb
     have Hbl:=uQ (Bok.body_le (mg:=mg) Hm8.out hk Hok.out)
     have Hne:=uQ (show Bok.body mg kd (rs.map (·.x))≠[] from fun e=>by
      have:=Bok.body_len (mg:=mg) (kd:=kd) Hm8.out Hok.out.row
      rw [e]at this
      simp only [List.length_nil]at this
      omega)
     have hri:=rises_c mgb kd k rs (by have:=Hn.out;omega) (Ro.os Hr.out) (fun r hr=>(He.out r hr).sub sbD) hSb
     clear hS hi hlt eb
     go_wp2_with ((with_reducible refine at_load ⟨?_⟩);refine wl_loadA hSb rFz pick1 Tryz.underlying177 rfl kRz ?_)
     refine hri.mono ?_
     rintro ee w5 ⟨v,rfl,t,rfl,ht,h5⟩
     obtain rfl:t=true:=ht.2 Hok.out.rise
     clear hri hSb ht
     go_wp2_with fail
     have hxs:=xsum_c Hne.out (by have:=Hbl.out;omega) (RS.of_abl h5) h5
     obtain ⟨S,HS⟩:∃ S,Hid (Xx.sum (Bok.body mg kd (rs.map (·.x)))=S):=⟨_,uQ rfl⟩
     have HSl:=uQ (show S<Xx.W by rw [← HS.out];exact Xx.sum_lt _)
     rw [HS.out]at hxs
     refine hxs.mono ?_
     rintro ee w6 ⟨v,rfl,rfl,h6⟩
     clear h5 hxs
     go_wp2_with fail
     refine (put8_c S HSl.out h6).mono ?_
     rintro ee w7 ⟨v,rfl,h7,_⟩
     clear h6
     go_wp2_with (with_reducible apply at_appA)
     refine ⟨wl_appA (m:=Frm.le S 8) (h7.pick pick1) rFz rFz (Sat.rd h7) (fun e=>by have k:=congrArg List.length e;rw [Frm.le_len]at k;cases k) (by rw [Frm.le_len];have:=Hbl.out;omega) ?_⟩
     intro v8 w8 h8
     have h9:Sat w0 w8 (abl v8 (Bok.book Xx.sum mg kd (rs.map (·.x)))::F):=by unfold Bok.book;rw [HS.out];exact h8.sb
     clear h7 h8
     go_wp2_with fail
     go_ret2
     exact ⟨_,rfl,v8,rfl,h9⟩
end
end Go.Proofs.YtfdchfnmpabogaaGreatDoor
