import Derived.Test.YtlimfgdbfadohaaGreatDoorJ10
import Derived.Test.YtlimfgdbfadohaaGreatDoorSort
set_option linter.unusedVariables false
set_option maxHeartbeats 128000000
namespace Go.Seg
open Go.aB
open Go.ak (Bs aX encs jd)
open Go.Rep
def TT.rel (T:TT) (k:Bs):TT:=match T k with
 |none=>T
 |some p=>if 1<p.2 then Tab.put T k (p.1,p.2 - 1) else Tab.del T k
section
variable {n c:Nat}{L:Log}{M:aB}{C:List (List aX)}{T:TT}{mR:Bs→Option dU}{k b u:Bs}{p:Bs×Nat}{cc:Nat}
theorem TT.ac8 (T:TT) (b:Bs):T.put b=Tab.put T (aA.sum b) (b,((T (aA.sum b)).map (·.2)).getD 0+1):=by
 funext x
 unfold TT.put Tab.put
 by_cases e:x=aA.sum b
 ·rw [if_pos e,if_pos e,e]
 ·rw [if_neg e,if_neg e]
theorem jO.less (h:jO n c L M C T mR) (hT:T k=some (u,cc)) (hc:1<cc):jO n c L M C (Tab.put T k (u,cc - 1)) (Tab.put mR k ⟨(cc:Int) - 1,(u.length:Nat)⟩):=by
 obtain ⟨s1,s2,s3⟩:=h.sum _ _ hT
 refine ⟨h.rp,fun x=>?_,fun x=>?_,fun x q hq=>?_⟩
 ·rw [h.txt]
  unfold Tab.put
  by_cases e:x=k
  ·rw [if_pos e,e,hT];rfl
  ·rw [if_neg e]
 ·unfold Tab.put
  by_cases e:x=k
  ·rw [if_pos e,if_pos e]
   show _=some (⟨((cc - 1:Nat):Int),(u.length:Int)⟩:dU)
   congr 2
   omega
  ·rw [if_neg e,if_neg e];exact h.cnt x
 ·unfold Tab.put at hq
  by_cases e:x=k
  ·rw [if_pos e]at hq
   cases hq
   exact ⟨e.trans s1,s2,by show cc - 1≤c;have:cc≤c:=s3;omega⟩
  ·rw [if_neg e]at hq;exact h.sum x q hq
theorem jO.gone (h:jO n c L M C T mR) (hn:n<400) (hT:T k=some p) :
  (L.append M ⟨1,k,[]⟩).2.2=0∧∃ C',jO (n+1) c (L.append M ⟨1,k,[]⟩).1.1 (L.append M ⟨1,k,[]⟩).1.2 C' (Tab.del T k) (Tab.del mR k)∧jc (iD 0 C')=Tab.del (jc (iD 0 C)) k:=by
 have hk:k.length=32:=by rw [(h.sum _ _ hT).1];exact Go.Proofs.YtlimfgdbfadohaaGreatDoor.lg _
 have he:=ZV hk
 have hu:=h.rp.hg.used
 have hrm:=h.rp.hg.keeps.calm.room
 have hnm:=h.rp.hg.names
 obtain ⟨a1,_⟩:=h.rp.hg.append oQ ⟨1,k,[]⟩ hk (Nat.zero_le _) he (.inr ⟨by omega,by omega⟩)
 refine ⟨a1,?_⟩
 obtain ⟨C',b1,_,b3,row,b4,b5,b6⟩:=h.rp.yes oQ hk (Nat.zero_le _) he a1
 refine ⟨C',⟨b1.mono oQ (Nat.le_refl _) (Nat.le_refl _) (Nat.le_refl _),fun x=>?_,fun x=>?_,fun x q hq=>?_⟩,?_⟩
 ·rw [b3,acw rfl]
  unfold Tab.del
  show (if x=k then none else o7 C.flatten x)=_
  by_cases e:x=k
  ·rw [if_pos e,if_pos e];rfl
  ·rw [if_neg e,if_neg e];exact h.txt x
 ·unfold Tab.del
  by_cases e:x=k
  ·rw [if_pos e,if_pos e];rfl
  ·rw [if_neg e,if_neg e];exact h.cnt x
 ·unfold Tab.del at hq
  by_cases e:x=k
  ·rw [if_pos e]at hq;cases hq
  ·rw [if_neg e]at hq;exact h.sum x q hq
 ·rw [b4,aco (by unfold iC;rw [b5])]
  unfold jo
  rw [b5]
end
def Twins (all:List Bs):Prop:=∃ x∈all,∃ y∈all,x≠y∧aA.sum x=aA.sum y
structure Bk (T:TT) (us:List (Bs×Nat)):Prop where
 one:(us.map (·.1)).Nodup
 has:∀ u∈us,0<u.2→T (aA.sum u.1)=some u
 of:∀ k p,T k=some p→k=aA.sum p.1∧p∈us∧0<p.2
 kv:∃ kv,Tab.Lists T kv
section
variable {T:TT}{us:List (Bs×Nat)}{b:Bs}{t i:Nat}{p:Bs×Nat}
theorem JX {α β:Type}{l:List (α×β)} (h:(l.map (·.1)).Nodup){x y:α×β} (hx:x∈l) (hy:y∈l) (e:x.1=y.1):x=y:=by
 induction l with
 |nil=>cases hx
 |cons a l ih=>
  rw [List.map_cons,List.nodup_cons]at h
  rcases List.mem_cons.1 hx with rfl|hx' <;> rcases List.mem_cons.1 hy with rfl|hy'
  ·rfl
  ·exact absurd (List.mem_map.2 ⟨y,hy',e.symm⟩) h.1
  ·exact absurd (List.mem_map.2 ⟨x,hx',e⟩) h.1
  ·exact ih h.2 hx' hy'
theorem Bk.start:Bk (fun _=>none) []:=⟨List.nodup_nil,fun u hu=>(by cases hu),fun k p hp=>(by cases hp),[],List.Pairwise.nil,fun k v=>⟨fun h=>(by cases h),fun h=>(by cases h)⟩⟩
theorem Bk.new (h:Bk T us) (hb:∀ u∈us,u.1≠b):Bk T (us++[(b,0)]):=by
 refine ⟨?_,fun u hu h0=>?_,fun k p hp=>?_,h.kv⟩
 ·rw [List.map_append,List.nodup_append]
  refine ⟨h.one,by simp,fun x hx y hy=>?_⟩
  obtain ⟨u,hu,rfl⟩:=List.mem_map.1 hx
  rw [List.map_cons,List.map_nil,List.mem_singleton]at hy
  rw [hy];exact hb u hu
 ·rcases List.mem_append.1 hu with hu|hu
  ·exact h.has u hu h0
  ·rw [List.mem_singleton]at hu
   subst hu
   exact absurd h0 (Nat.lt_irrefl 0)
 ·obtain ⟨a1,a2,a3⟩:=h.of k p hp
  exact ⟨a1,List.mem_append.2 (.inl a2),a3⟩
theorem Bk.at (h:Bk T us) (hi:us[i]?=some (b,t)):(T (aA.sum b)=none∧t=0)∨(0<t∧T (aA.sum b)=some (b,t))∨(t=0∧(∃ p,T (aA.sum b)=some p)∧Twins (us.map (·.1))):=by
 have hm:=List.mem_of_getElem? hi
 cases hT:T (aA.sum b) with
 |none=>
  refine .inl ⟨rfl,?_⟩
  rcases Nat.eq_zero_or_pos t with h0|h0
  ·exact h0
  ·have:=h.has _ hm h0
   rw [hT]at this;cases this
 |some p=>
  rcases Nat.eq_zero_or_pos t with h0|h0
  ·refine .inr (.inr ⟨h0,⟨p,rfl⟩,?_⟩)
   obtain ⟨a1,a2,a3⟩:=h.of _ _ hT
   refine ⟨p.1,List.mem_map.2 ⟨p,a2,rfl⟩,b,List.mem_map.2 ⟨(b,t),hm,rfl⟩,fun e=>?_,a1.symm⟩
   have:=JX h.one a2 hm e
   subst this
   exact absurd h0 (Nat.ne_of_gt a3)
  ·have:=h.has _ hm h0
   rw [hT]at this
   cases this
   exact .inr (.inl ⟨h0,rfl⟩)
theorem CZ (hi:us[i]?=some (b,t)) (t':Nat):(us.set i (b,t')).map (·.1)=us.map (·.1):=by
 rw [List.map_set]
 obtain ⟨h1,h2⟩:=List.getElem?_eq_some_iff.1 hi
 refine List.ext_getElem? fun j=>?_
 rw [List.getElem?_set]
 split
 ·rename_i e
  subst e
  rw [if_pos (by rw [List.length_map];exact h1),List.getElem?_map,hi];rfl
 ·rfl
theorem JJ (one:(us.map (·.1)).Nodup) (hi:us[i]?=some (b,t)){t':Nat}{u:Bs×Nat} (hu:u∈us.set i (b,t')):u=(b,t')∨(u∈us∧u.1≠b):=by
 have hn:((us.set i (b,t')).map (·.1)).Nodup:=by rw [CZ hi];exact one
 have hm:(b,t')∈us.set i (b,t'):=by
  obtain ⟨h1,_⟩:=List.getElem?_eq_some_iff.1 hi
  exact List.mem_iff_getElem?.2 ⟨i,by rw [List.getElem?_set_self h1]⟩
 by_cases e:u.1=b
 ·exact .inl (JX hn hu hm e)
 ·refine .inr ⟨?_,e⟩
  obtain ⟨j,hj⟩:=List.mem_iff_getElem?.1 hu
  rw [List.getElem?_set]at hj
  split at hj
  ·split at hj
   ·cases hj;exact absurd rfl e
   ·cases hj
  ·exact List.mem_of_getElem? hj
theorem RU (hi:us[i]?=some (b,t)) (t':Nat):(b,t')∈us.set i (b,t'):=by
 obtain ⟨h1,_⟩:=List.getElem?_eq_some_iff.1 hi
 exact List.mem_iff_getElem?.2 ⟨i,by rw [List.getElem?_set_self h1]⟩
theorem JI (hi:us[i]?=some (b,t)) (t':Nat){u:Bs×Nat} (hu:u∈us) (hb:u.1≠b):u∈us.set i (b,t'):=by
 obtain ⟨j,hj⟩:=List.mem_iff_getElem?.1 hu
 refine List.mem_iff_getElem?.2 ⟨j,?_⟩
 rw [List.getElem?_set,if_neg]
 ·exact hj
 ·rintro rfl
  rw [hi]at hj
  cases hj
  exact hb rfl
theorem Bk.put (h:Bk T us) (hi:us[i]?=some (b,t)) (hT:T (aA.sum b)=none∨∃ cc,T (aA.sum b)=some (b,cc)):Bk (T.put b) (us.set i (b,t+1)):=by
 have hv:((T (aA.sum b)).map (·.2)).getD 0=t:=by
  rcases h.at hi with ⟨h1,h2⟩|⟨h1,h2⟩|⟨h1,⟨p,h2⟩,h3⟩
  ·rw [h1,h2];rfl
  ·rw [h2];rfl
  ·rcases hT with hT|⟨cc,hT⟩
   ·rw [hT]at h2;cases h2
   ·obtain ⟨_,a2,a3⟩:=h.of _ _ hT
    have:=JX h.one a2 (List.mem_of_getElem? hi) rfl
    cases this
    exact absurd h1 (Nat.ne_of_gt a3)
 refine ⟨by rw [CZ hi];exact h.one,fun u hu h0=>?_,fun k p hp=>?_,?_⟩
 ·rcases JJ h.one hi hu with rfl|⟨hu,hb⟩
  ·unfold TT.put
   rw [if_pos rfl,hv]
  ·have:=h.has u hu h0
   unfold TT.put
   by_cases e:aA.sum u.1=aA.sum b
   ·rw [e]at this
    rcases hT with hT|⟨cc,hT⟩
    ·rw [hT]at this;cases this
    ·rw [hT]at this;cases this;exact absurd rfl hb
   ·rw [if_neg e];exact this
 ·unfold TT.put at hp
  by_cases e:k=aA.sum b
  ·rw [if_pos e,e,hv]at hp
   cases hp
   exact ⟨e,RU hi _,Nat.succ_pos _⟩
  ·rw [if_neg e]at hp
   obtain ⟨a1,a2,a3⟩:=h.of _ _ hp
   exact ⟨a1,JI hi _ a2 fun e2=>e (by rw [a1,e2]),a3⟩
 ·obtain ⟨kv,hk⟩:=h.kv
  rw [TT.ac8]
  exact ⟨_,Tab.Us hk⟩
theorem Bk.rel (h:Bk T us) (hi:us[i]?=some (b,t)) (h0:0<t) (hT:T (aA.sum b)=some (b,t)):Bk (T.rel (aA.sum b)) (us.set i (b,t - 1)):=by
 have e1:T.rel (aA.sum b)=if 1<t then Tab.put T (aA.sum b) (b,t - 1) else Tab.del T (aA.sum b):=by unfold TT.rel;rw [hT]
 obtain ⟨kv,hkv⟩:=h.kv
 rw [e1]
 have hoth:∀ u∈us,u.1≠b→0<u.2→aA.sum u.1≠aA.sum b:=fun u hu hb hp e=>by
  have:=h.has u hu hp
  rw [e,hT]at this
  cases this
  exact hb rfl
 by_cases h1:1<t
 ·rw [if_pos h1]
  refine ⟨by rw [CZ hi];exact h.one,fun u hu hp=>?_,fun k p hp=>?_,_,Tab.Us hkv⟩
  ·unfold Tab.put
   rcases JJ h.one hi hu with rfl|⟨hu,hb⟩
   ·rw [if_pos rfl]
   ·rw [if_neg (hoth u hu hb hp)];exact h.has u hu hp
  ·unfold Tab.put at hp
   by_cases e:k=aA.sum b
   ·rw [if_pos e]at hp
    cases hp
    exact ⟨e,RU hi _,by show 0<t - 1;omega⟩
   ·rw [if_neg e]at hp
    obtain ⟨a1,a2,a3⟩:=h.of _ _ hp
    exact ⟨a1,JI hi _ a2 fun e2=>e (by rw [a1,e2]),a3⟩
 ·rw [if_neg h1]
  obtain rfl:t=1:=by omega
  refine ⟨by rw [CZ hi];exact h.one,fun u hu hp=>?_,fun k p hp=>?_,_,Tab.YQ hkv (b,0)⟩
  ·unfold Tab.del
   rcases JJ h.one hi hu with rfl|⟨hu,hb⟩
   ·exact absurd hp (Nat.lt_irrefl 0)
   ·rw [if_neg (hoth u hu hb hp)];exact h.has u hu hp
  ·unfold Tab.del at hp
   by_cases e:k=aA.sum b
   ·rw [if_pos e]at hp;cases hp
   ·rw [if_neg e]at hp
    obtain ⟨a1,a2,a3⟩:=h.of _ _ hp
    exact ⟨a1,JI hi _ a2 fun e2=>e (by rw [a1,e2]),a3⟩
theorem Bk.count (h:Bk T us){kv:List (Bs×(Bs×Nat))} (hl:Tab.Lists T kv):kv.length=us.countP (fun u=>decide (0<u.2)):=by
 have h1:(kv.map (·.1)).Nodup:=hl.keys
 have h2:((us.filter (fun u=>decide (0<u.2))).map (fun u=>aA.sum u.1)).Nodup:=by
  have hu:us.Nodup:=by
   have:=h.one
   unfold List.Nodup at this ⊢
   rw [List.pairwise_map]at this
   exact this.imp fun hne e=>hne (by rw [e])
  unfold List.Nodup
  rw [List.pairwise_map]
  refine List.Pairwise.imp_of_mem ?_ (hu.filter _)
  intro x y hx hy hne e
  obtain ⟨hx1,hx2⟩:=List.mem_filter.1 hx
  obtain ⟨hy1,hy2⟩:=List.mem_filter.1 hy
  have p1:=h.has x hx1 (of_decide_eq_true hx2)
  have p2:=h.has y hy1 (of_decide_eq_true hy2)
  rw [e,p2]at p1
  cases p1
  exact hne rfl
 have h3:=(List.perm_ext_iff_of_nodup h1 h2).2 fun k=>by
  constructor
  ·intro hk
   obtain ⟨q,hq,rfl⟩:=List.mem_map.1 hk
   have hT:=(hl.2 q.1 q.2).1 hq
   obtain ⟨a1,a2,a3⟩:=h.of _ _ hT
   exact List.mem_map.2 ⟨q.2,List.mem_filter.2 ⟨a2,decide_eq_true a3⟩,a1.symm⟩
  ·intro hk
   obtain ⟨u,hu,rfl⟩:=List.mem_map.1 hk
   obtain ⟨hu1,hu2⟩:=List.mem_filter.1 hu
   exact List.mem_map.2 ⟨(aA.sum u.1,u),(hl.2 _ _).2 (h.has u hu1 (of_decide_eq_true hu2)),rfl⟩
 have:=h3.length_eq
 rw [List.length_map,List.length_map]at this
 rw [this,List.countP_eq_length_filter]
theorem RD {V W:Type}{m:Bs→Option V}{m':Bs→Option W}{kv:List (Bs×V)} (hl:Tab.Lists m kv) (he:∀ k,(m' k).isSome=(m k).isSome):∃ kv':List (Bs×W),Tab.Lists m' kv'∧kv'.length=kv.length∧kv'.map (·.1)=kv.map (·.1):=by
 have hs:∀ q∈kv,(m' q.1).isSome=true:=fun q hq=>by rw [he,(hl.2 q.1 q.2).1 hq];rfl
 have key:∀ l:List (Bs×V),(∀ q∈l,(m' q.1).isSome=true)→∃ l':List (Bs×W),l'.map (·.1)=l.map (·.1)∧∀ q∈l',m' q.1=some q.2:=by
  intro l
  induction l with
  |nil=>exact fun _=>⟨[],rfl,fun q hq=>by cases hq⟩
  |cons a l ih=>
   intro h
   obtain ⟨l',q1,q2⟩:=ih fun q hq=>h q (.tail _ hq)
   obtain ⟨w,hw⟩:=Option.isSome_iff_exists.1 (h a (.head _))
   refine ⟨(a.1,w)::l',by rw [List.map_cons,List.map_cons,q1],fun q hq=>?_⟩
   rcases List.mem_cons.1 hq with rfl|hq
   ·exact hw
   ·exact q2 q hq
 obtain ⟨kv',q1,q2⟩:=key kv hs
 refine ⟨kv',⟨?_,fun k v=>⟨fun hq=>q2 _ hq,fun hv=>?_⟩⟩,by have:=congrArg List.length q1;simpa using this,q1⟩
 ·have h1:=hl.1
  have h2:(kv.map (·.1)).Pairwise (· < ·):=List.pairwise_map.2 h1
  rw [← q1]at h2
  exact List.pairwise_map.1 h2
 ·have hm:(m k).isSome=true:=by rw [← he,hv];rfl
  obtain ⟨x,hx⟩:=Option.isSome_iff_exists.1 hm
  have hk:k∈kv.map (·.1):=List.mem_map.2 ⟨(k,x),(hl.2 k x).2 hx,rfl⟩
  rw [← q1]at hk
  obtain ⟨q,hq,e⟩:=List.mem_map.1 hk
  have:=q2 q hq
  rw [e,hv]at this
  cases this
  rw [← e]
  exact hq
end
end Go.Seg
namespace Go.Proofs.YtlimfgdbfadohaaGreatDoor
open Go Go.Sl Go.aB Go.MapKept Go.RowKit
def vS:Tab.Slot Rep.dU:=⟨2,ak.zero32,⟨0,0⟩⟩
theorem aeM (w:World):(Instr.build 120 #[(0,.int .i64 2)]).run Tryz.prog w = .ok (.agg (slotL aN vS).toArray) w:=by
 refine (run_build (P:=Tryz.prog) [(0,.int .i64 2)] S9 xk (by
  intro p' hp
  simp only [List.mem_cons,List.not_mem_nil,or_false]at hp
  have hzz:(Value.agg (slotL aN (⟨0,ak.zero32,⟨0,0⟩⟩:Tab.Slot (Rep.dU))).toArray).cells.size=35:=by
   show (slotL aN (⟨0,ak.zero32,⟨0,0⟩⟩:Tab.Slot (Rep.dU))).toArray.size=35
   rw [List.size_toArray,gB aN _ aJ 2 rfl]
  rw [hzz]
  rcases hp with rfl
  exact ⟨0,rfl,by show 0+1≤35;omega⟩) w).trans ?_
 rfl
section
variable {w0 w:World}{F R:List aC}{p B:Nat}{sv:Value}{k:ak.Bs}{m:ak.Bs→Option (Rep.dU)}
set_option maxRecDepth 20000 in
theorem YO (hB:B≤134217000) (hk:k.length=32) (h:Sat w0 w (bW p m B::F)) :
  Calls Tryz.prog 68 #[ptr p,.agg (ay k).toArray] w (aI fun v w'=>v = .bool (m k).isSome∧Sat w0 w' (bW p (Tab.del m k) B::F)):=by
 obtain ⟨t,sv,⟨ok,is,hb⟩,hR⟩:=bW.open h
 obtain ⟨d,he⟩:=ok.ends k
 have hsz:t.slots.length≤536872000:=by have:=ok.size;omega
 have Hlen:=uQ (show ∀ x∈t.slots,(slotL aN x).length=35 from fun x hx=>gB aN x (ok.good.key x hx) 2 (rJ _))
 obtain ⟨la,lc,rfl⟩:=jm Hlen.out (Sat.rd (hR.pick aP)) aJ
 have hrl:0<(t.slots.flatMap (slotL aN)).length:=by rw [jr Hlen.out];have:=ok.good.gZ;omega
 obtain ⟨bk,rfl⟩:=sO (hR.pick aP) hrl
 have Hk:=uQ hk;have bY:=uQ ok;have fF:=uQ is;have Hb:=uQ hb;have He:=uQ he;have dw:=uQ hsz;have HB:=uQ hB
 have fZ:=uQ ok.good.gZ
 have nR:=uQ (show (ay k).length=32 by rw [aU,hk])
 clear h hk ok is hb he hsz hB hrl
 go_enter Tryz.func68,Tryz.ntmps68
 go_wp2_with (with_reducible apply fH)
 refine ⟨fO hR aj aj ?_⟩
 intro b4 w4 hS4
 have hA:Sat w0 w4 (dR p 123 (.slice (some ⟨bk,0,none⟩) t.slots.length lc) t.n t.gone::aF 120 35 (.slice (some ⟨bk,0,none⟩) t.slots.length lc) (t.slots.flatMap (slotL aN))::pt b4 (.cells (ay k).toArray 30 (0,0))::F):=hS4.sb
 clear hR hS4
 go_wp2_with fail
 refine (EP fZ.out hA).mono ?_
 rintro ee w7 ⟨v',rfl,rfl,rfl⟩
 go_wp2_with ((with_reducible refine bI ⟨?_⟩);refine fB hA ah (aO (aO (aH (A:=pt b4 (.cells (ay k).toArray 30 (0,0)))))) Tryz.underlying30 rfl (by rw [List.size_toArray,nR.out];kernel_rfl) ?_)
 have hf:=Bo bY.out.good (Nat.le_trans dw.out aJ) Hk.out He.out hA
 clear hA
 refine hf.mono ?_
 rintro ee w8 ⟨v',rfl,x,hx,rfl,fG⟩
 clear hf
 have hlt:=Tab.jS (k:=k) (d:=d) fZ.out
 by_cases h1:x.st=1
 rotate_left
 ·have hd:decide (x.st=1)=false:=decide_eq_false h1
  have hno:m k=none:=by
   obtain ⟨_,q2⟩:=fF.out.some bY.out He.out hx
   exact q2 h1
  have Hno:=uQ hno
  have uY:=uQ (show Tab.del m k=m from by
   funext l
   unfold Tab.del
   split
   ·rename_i e;rw [e,hno]
   ·rfl)
  clear h1 hx hno hlt
  go_wp2_with fail
  go_ret
  exact ⟨_,rfl,by rw [Hno.out];rfl,by rw [uY.out];exact bW.shut bY.out fF.out Hb.out (fG.sb)⟩
 ·have hd:decide (x.st=1)=true:=decide_eq_true h1
  have xF:=uQ (show (m k).isSome=true from by rw [(fF.out.some bY.out He.out hx).1 h1];rfl)
  have l9:=uQ (sU (f:=slotL aN) (k:=35) (i:=Tab.pos k t.slots.length d) (x:=vS) Hlen.out (gB aN _ rfl 2 rfl) hlt)
  obtain ⟨hn0,hok2⟩:=Tab.OB bY.out He.out hx h1 (z:=vS) rfl rfl
  have lN:=uQ (fun n g=>Tab.Rf fF.out (Tab.Il bY.out.good He.out hx h1 (z:=vS) rfl rfl).2 n g)
  have hrl:(t.slots.flatMap (slotL aN)).length=35 * t.slots.length:=jr Hlen.out
  have hls:=gB aN vS rfl 2 rfl
  have hwn:IntKind.i64.wrap ((t.n:Int) - 1)=((t.n - 1:Nat):Int):=by rw [IntWalk.i64_in _ (by have:=Hb.out;have:=HB.out;omega)];omega
  have hwg:IntKind.i64.wrap ((t.gone:Int)+1)=((t.gone+1:Nat):Int):=by rw [IntWalk.i64_in _ (by have:=Hb.out;have:=HB.out;omega)];omega
  have hle:(t.slots.set (Tab.pos k t.slots.length d) vS).length=t.slots.length:=List.length_set
  have Hb2:=uQ (show (t.n - 1)+(t.gone+1)≤B by have:=Hb.out;omega)
  have lQ:=uQ hok2
  generalize hns:t.slots.set (Tab.pos k t.slots.length d) vS=ns at *
  clear hns hok2
  clear h1 hx
  generalize Tab.pos k t.slots.length d=P0 at *
  have c0:(0:Int)≤(P0:Int):=oQ
  have c1:(P0:Int)<(t.slots.length:Int):=oQ
  go_wp2_with (first
   |((with_reducible refine bI ⟨?_⟩);refine gK fG ah aY bH aj au ?_)
   |((with_reducible apply wW);refine ⟨?_⟩;refine uM ah (fun w=>aeM w) ?_)
   |(with_reducible apply bU))
  refine ⟨Dp (vs:=slotL aN vS) (P0 * 35) fG ah ah rfl (fD bJ) (by rw [hrl,hls];omega) (by rw [hls];kernel_rfl) (kJ aN _ ah) ?_⟩
  intro w12 gq
  rw [← l9.out]at gq
  clear fG
  go_wp2_with (first
   |((with_reducible refine bI ⟨?_⟩);refine gK gq ah aY bH aj au ?_)
   |(with_reducible apply bU))
  refine ⟨eX (cs':=#[.slice (some ⟨bk,0,none⟩) t.slots.length lc,.int .i64 ((t.n - 1:Nat):Int),.int .i64 t.gone]) gq ah ah ah bJ bH au ah ?_⟩
  intro jH nK
  clear gq
  go_wp2_with (first
   |((with_reducible refine bI ⟨?_⟩);refine gK nK ah aY bH aj au ?_)
   |(with_reducible apply bU))
  refine ⟨eX (cs':=#[.slice (some ⟨bk,0,none⟩) t.slots.length lc,.int .i64 ((t.n - 1:Nat):Int),.int .i64 ((t.gone+1:Nat):Int)]) nK ah ah ah bJ bH au ah ?_⟩
  intro pq x9
  clear nK hwn hwg
  go_wp2_with fail
  have hSd:=x9.drew
  clear x9
  have hw8:IntKind.i64.wrap (8 * ((t.n - 1:Nat):Int))=8 * ((t.n - 1:Nat):Int):=IntWalk.i64_in _ (by have:=Hb.out;have:=HB.out;omega)
  have aaD:wrap64 (8 * ((t.n - 1:Nat):Int))=8 * ((t.n - 1:Nat):Int):=IntWalk.wrap64_in _ (by have:=Hb.out;have:=HB.out;omega)
  have Ar:=uQ (show t.n - 1≤134217728 by have:=Hb.out;have:=HB.out;omega)
  clear hn0
  generalize t.n - 1=n1 at *
  generalize t.gone+1=g1 at *
  by_cases c8:8<t.slots.length
  ·have xO:(8:Int)<(t.slots.length:Int):=by omega
   have Ia:decide ((8:Int)<(t.slots.length:Int))=true:=decide_eq_true xO
   by_cases c9:8 * n1<t.slots.length
   ·have xP:8 * (n1:Int)<(t.slots.length:Int):=by omega
    have Ib:decide (8 * (n1:Int)<(t.slots.length:Int))=true:=decide_eq_true xP
    refine dh [] (fun w'=>w'.cell? ⟨p,0,none⟩=some (.slice (some ⟨bk,0,none⟩) t.slots.length lc)∧w'.cell? ⟨p,1,none⟩=some (.int .i64 n1)) au ?_
    have hG:World.cell? _ ⟨p,0,none⟩=some (.slice (some ⟨bk,0,none⟩) t.slots.length lc)∧World.cell? _ ⟨p,1,none⟩=some (.int .i64 n1):=⟨hSd.cellP aY 0 rfl,hSd.cellP aY 1 rfl⟩
    refine rP 0 ?_ (y:=aG)
    refine rP 1 ?_ (y:=dL)
    refine rP 2 ?_ (y:=cO)
    refine rt 3 (h:=?_)
    refine rP 4 ?_ (y:=(nG aj bT))
    refine rP 5 ?_ (y:=dB)
    refine rP 6 ?_ (y:=aG)
    refine rP 7 ?_ (y:=(fV ah aj))
    refine rP 8 ?_ (y:=(xg ah aj))
    refine rP 9 ?_ (y:=(uN ah aj bT))
    refine dK 10 aj au bC (nC ah aj au (by intro wq hq;first|exact hq|exact hq.1|exact hq.2|exact hq.2.1|exact hq.2.2|exact hq.2.2.1|exact hq.2.2.2|exact hq.2.2.2.1|exact hq.2.2.2.2)) aQ gQ ?_
    refine rP 11 ?_ (y:=(FZ ah aj bT))
    refine rP 12 ?_ (y:=(fV ah aj))
    refine rP 13 ?_ (y:=(xg ah aj))
    refine rP 14 ?_ (y:=(uN ah aj bT))
    refine dK 15 aj au bC (nC ah aj au (by intro wq hq;first|exact hq|exact hq.1|exact hq.2|exact hq.2.1|exact hq.2.2|exact hq.2.2.1|exact hq.2.2.2|exact hq.2.2.2.1|exact hq.2.2.2.2)) aQ gQ ?_
    refine rP 16 ?_ (y:=(jJ ah aj aj bT))
    refine rP 17 ?_ (y:=(jJ ah aj aj bT))
    refine rP 18 ?_ (y:=(jK ah aj aj))
    clear hG
    refine cu au ?_
    try simp only [jB]
    try go_frame
    have hrn:=TK (t:=⟨ns,n1,g1⟩) (N:=n1) lQ.out (Nat.le_refl _) Ar.out (by show ns.length≤_;have:=dw.out;omega) (hSd.sb:Sat w0 _ (dR p 123 (.slice (some ⟨bk,0,none⟩) t.slots.length lc) n1 g1::aF 120 35 (.slice (some ⟨bk,0,none⟩) t.slots.length lc) (ns.flatMap (slotL aN))::pt b4 (.cells (ay k).toArray 30 (0,0))::F))
    have e1:World.cell? _ ⟨p,1,none⟩=some (.int .i64 n1):=hSd.cellP aY 1 rfl
    clear hSd
    go_wp2_with fail
    refine hrn.mono ?_
    rintro ee Dk ⟨v',rfl,s',sv',lG,IU⟩
    clear hrn
    have AL:=uQ lG
    clear lG e1
    go_wp2_with fail
    go_ret
    exact ⟨_,rfl,by rw [xF.out];rfl,bW.shut (t:=⟨s',n1,0⟩) AL.out.ok0 (AL.out.is (lN.out n1 g1) n1 0) (by have:=Hb2.out;simp only;omega) (IU.sb)⟩
   ·have xP:¬ 8 * (n1:Int)<(t.slots.length:Int):=by omega
    have Ib:decide (8 * (n1:Int)<(t.slots.length:Int))=false:=decide_eq_false xP
    refine dh [] (fun w'=>w'.cell? ⟨p,0,none⟩=some (.slice (some ⟨bk,0,none⟩) t.slots.length lc)∧w'.cell? ⟨p,1,none⟩=some (.int .i64 n1)) au ?_
    have hG:World.cell? _ ⟨p,0,none⟩=some (.slice (some ⟨bk,0,none⟩) t.slots.length lc)∧World.cell? _ ⟨p,1,none⟩=some (.int .i64 n1):=⟨hSd.cellP aY 0 rfl,hSd.cellP aY 1 rfl⟩
    refine rP 0 ?_ (y:=aG)
    refine rP 1 ?_ (y:=dL)
    refine rP 2 ?_ (y:=cO)
    refine rt 3 (h:=?_)
    refine rP 4 ?_ (y:=(nG aj bT))
    refine rP 5 ?_ (y:=dB)
    refine rP 6 ?_ (y:=aG)
    refine rP 7 ?_ (y:=(fV ah aj))
    refine rP 8 ?_ (y:=(xg ah aj))
    refine rP 9 ?_ (y:=(uN ah aj bT))
    refine dK 10 aj au bC (nC ah aj au (by intro wq hq;first|exact hq|exact hq.1|exact hq.2|exact hq.2.1|exact hq.2.2|exact hq.2.2.1|exact hq.2.2.2|exact hq.2.2.2.1|exact hq.2.2.2.2)) aQ gQ ?_
    refine rP 11 ?_ (y:=(FZ ah aj bT))
    refine rP 12 ?_ (y:=(fV ah aj))
    refine rP 13 ?_ (y:=(xg ah aj))
    refine rP 14 ?_ (y:=(uN ah aj bT))
    refine dK 15 aj au bC (nC ah aj au (by intro wq hq;first|exact hq|exact hq.1|exact hq.2|exact hq.2.1|exact hq.2.2|exact hq.2.2.1|exact hq.2.2.2|exact hq.2.2.2.1|exact hq.2.2.2.2)) aQ gQ ?_
    refine rP 16 ?_ (y:=(jJ ah aj aj bT))
    refine rP 17 ?_ (y:=(jJ ah aj aj bT))
    refine rP 18 ?_ (y:=(jK ah aj aj))
    clear hG
    refine cu au ?_
    try simp only [jB]
    try go_frame
    go_wp2_with fail
    go_ret
    exact ⟨_,rfl,by rw [xF.out];rfl,bW.shut (t:=⟨ns,n1,g1⟩) lQ.out (lN.out n1 g1) Hb2.out (hSd.sb)⟩
  ·have xO:¬ (8:Int)<(t.slots.length:Int):=by omega
   have Ia:decide ((8:Int)<(t.slots.length:Int))=false:=decide_eq_false xO
   refine dh [] (fun w'=>w'.cell? ⟨p,0,none⟩=some (.slice (some ⟨bk,0,none⟩) t.slots.length lc)∧w'.cell? ⟨p,1,none⟩=some (.int .i64 n1)) au ?_
   have hG:World.cell? _ ⟨p,0,none⟩=some (.slice (some ⟨bk,0,none⟩) t.slots.length lc)∧World.cell? _ ⟨p,1,none⟩=some (.int .i64 n1):=⟨hSd.cellP aY 0 rfl,hSd.cellP aY 1 rfl⟩
   refine rP 0 ?_ (y:=aG)
   refine rP 1 ?_ (y:=dL)
   refine rP 2 ?_ (y:=cO)
   refine rt 3 (h:=?_)
   refine rP 4 ?_ (y:=(nG aj bT))
   refine rP 5 ?_ (y:=dB)
   refine rP 6 ?_ (y:=aG)
   refine dF 7 aj au bC ah gQ ?_
   refine dF 8 aj au bC ah gQ ?_
   refine dF 9 aj au bC ah gQ ?_
   refine dF 10 aj au bC ah gQ ?_
   refine dF 11 aj au bC ah gQ ?_
   refine dF 12 aj au bC ah gQ ?_
   refine dF 13 aj au bC ah gQ ?_
   refine dF 14 aj au bC ah gQ ?_
   refine dF 15 aj au bC ah gQ ?_
   refine dF 16 aj au bC ah gQ ?_
   refine dF 17 aj au bC ah gQ ?_
   refine rP 18 ?_ (y:=(jK ah aj aj))
   clear hG
   refine cu au ?_
   try simp only [jB]
   try go_frame
   go_wp2_with fail
   go_ret
   exact ⟨_,rfl,by rw [xF.out];rfl,bW.shut (t:=⟨ns,n1,g1⟩) lQ.out (lN.out n1 g1) Hb2.out (hSd.sb)⟩
end
section
variable {w0 w:World}{F:List aC}{A1 A2 A3 A4 B1 B2 B3 B4:aC}{s r t BR:Nat}{mR:ak.Bs→Option Rep.dU}{x:Rep.dU}{k:ak.Bs}
def LX (w0:World) (F:List aC) (A1 A2 A3 A4 B1 B2 B3 B4:aC) (r:Nat) (k:ak.Bs):Prop:=∀ (w':World) (R:List aC),Sub R F→Sat w0 w' (A1::A2::A3::A4::R)→Calls Tryz.prog 67 #[ptr r,.agg (ay k).toArray] w' (aI fun v w''=>v=errno 0∧Sat w0 w'' (B1::B2::B3::B4::R))
set_option maxRecDepth 20000 in
theorem afA (gY:BR≤134217000) (hk:k.length=32) (hm:mR k=none) (h:Sat w0 w (dG s r t false::bW t mR BR::A1::A2::A3::A4::F)) :
  Calls Tryz.prog 38 #[ptr s,.agg (ay k).toArray] w (aI fun v w'=>v=errno 9∧Sat w0 w' (dG s r t false::bW t mR BR::A1::A2::A3::A4::F)):=by
 have dW:=uQ (show (ay k).length=32 by rw [aU,hk])
 have lM:=uQ (fun (w':World) (R:List aC) (hw:Sat w0 w' (bW t mR BR::R))=>zH (k:=k) (Nat.le_trans gY aJ) hk hw)
 rw [hm,Option.getD_none,Option.isSome_none]at lM
 clear gY hk hm
 go_enter Tryz.func38,Tryz.ntmps38
 go_wp2_with (with_reducible apply fH)
 refine ⟨fO h aj aj ?_⟩
 intro b6 w3 h3
 replace h3:Sat w0 w3 (dG s r t false::bW t mR BR::pt b6 (.cells (ay k).toArray 30 (0,0))::A1::A2::A3::A4::F):=h3.sb
 clear h
 have hok:=rO h3
 go_wp2_with fail
 refine hok.mono ?_
 rintro ee w5 ⟨v,rfl,rfl,rfl⟩
 clear hok
 go_wp2_with fail
 have h9:=h3.drew
 have hG:World.cell? _ ⟨s,1,none⟩=some (ptr t)∧World.rangeAt _ b6 0 (ay k):=⟨h9.cellP aH 1 rfl,fun j v hj=>h9.cellP dM (0+j) (by simpa using hj)⟩
 clear h3
 refine dh [5,6,7,8,10,11] (fun w'=>w'.cell? ⟨s,1,none⟩=some (ptr t)∧w'.rangeAt b6 0 (ay k)) au ?_
 refine rP 0 ?_ (y:=aG)
 refine rP 1 ?_ (y:=dL)
 refine rP 2 ?_ (y:=cO)
 refine rt 3 (h:=?_)
 refine dK 4 aj au bC (gu (b:=b6) (o:=0) (ay k) ah Tryz.underlying30 rfl (by rw [dW.out];kernel_rfl) (fun w hw=>hw.2)) aQ gQ ?_
 clear hG
 refine rM 5 9 aj aj au (fun K hK=>?_) (fun K hK=>?_)
 focus
  (refine eU au aj aj ?_)
  refine (lM.out _ _ (h9.sb:Sat w0 _ (bW t mR BR::pt b6 (.cells (ay k).toArray 30 (0,0))::dG s r t false::A1::A2::A3::A4::F))).mono ?_
  rintro ee w10 ⟨v,rfl,rfl,h10⟩
  refine hK _ _ (.inl rfl) ?_
  clear hK h9
  refine rP 6 ?_ (y:=aG)
  refine rP 7 ?_ (y:=(fC aj bT))
  refine rP 8 ?_ (y:=(fC aj bT))
  refine bG 9 aj au (fun K hK=>?_)
  refine kP (nH) h10 rfl ?_
  intro b8 fU h11
  refine hK _ _ (.inr (.inl ⟨h11.cellP iy 1 rfl,fun j v hj=>h11.cellP dM (0+j) (by simpa using hj)⟩)) ?_
  clear hK h10
 rotate_left
 focus
  refine kP (nH) h9 rfl ?_
  intro b8 w10 h10
  refine hK _ _ (.inr (.inl ⟨h10.cellP aP 1 rfl,fun j v hj=>h10.cellP iy (0+j) (by simpa using hj)⟩)) ?_
  clear hK h9
  refine bG 5 aj au (fun K hK=>?_)
  (refine eU au aj aj ?_)
  refine (lM.out _ _ (h10.sb:Sat w0 _ (bW t mR BR::pt b8 (.cells (aN gJ).toArray 60 (0,0))::pt b6 (.cells (ay k).toArray 30 (0,0))::dG s r t false::A1::A2::A3::A4::F))).mono ?_
  rintro ee fU ⟨v,rfl,rfl,mZ⟩
  refine hK _ _ (.inl rfl) ?_
  clear hK h10
  have h11:Sat w0 fU (pt b8 (.cells (aN gJ).toArray 60 (0,0))::bW t mR BR::pt b6 (.cells (ay k).toArray 30 (0,0))::dG s r t false::A1::A2::A3::A4::F):=mZ.sb
  clear mZ
  refine rP 6 ?_ (y:=aG)
  refine rP 7 ?_ (y:=(fC aj bT))
  refine rP 8 ?_ (y:=(fC aj bT))
 all_goals
  refine bG 10 aj au (fun K hK=>?_)
  refine jD (cs':=(aN gJ).toArray) h11 aj aj ah bJ bH au ah ?_
  intro w12 h12
  refine hK _ _ (.inl rfl) ?_
  clear hK h11
  refine rP 11 ?_ (y:=dN)
  refine cu au ?_
  have h13:Sat w0 w12 (dG s r t false::A1::A2::A3::A4::pt b8 (.cells (aN gJ).toArray 60 (0,0))::bW t mR BR::pt b6 (.cells (ay k).toArray 30 (0,0))::F):=h12.sb
  clear h12
  go_wp2_with fail
  go_ret
  exact ⟨_,rfl,rfl,h13.sb⟩
set_option maxRecDepth 20000 in
theorem afz (gY:BR≤134217000) (hk:k.length=32) (hm:mR k=some x) (h1:1<x.refs) (h2:x.refs<1000000) (h:Sat w0 w (dG s r t false::bW t mR BR::A1::A2::A3::A4::F)) :
  Calls Tryz.prog 38 #[ptr s,.agg (ay k).toArray] w (aI fun v w'=>v=errno 0∧Sat w0 w' (dG s r t false::bW t (Tab.put mR k ⟨x.refs - 1,x.size⟩) (BR+1)::A1::A2::A3::A4::F)):=by
 have dW:=uQ (show (ay k).length=32 by rw [aU,hk])
 have lM:=uQ (fun (w':World) (R:List aC) (hw:Sat w0 w' (bW t mR BR::R))=>zH (k:=k) (Nat.le_trans gY aJ) hk hw)
 rw [hm,Option.getD_some,Option.isSome_some]at lM
 have ql:=uQ (fun (w':World) (R:List aC) (hw:Sat w0 w' (bW t mR BR::R))=>Tf gY hk ⟨x.refs - 1,x.size⟩ hw)
 generalize Tab.put mR k ⟨x.refs - 1,x.size⟩=JE at *
 have c1:(1:Int)<x.refs:=h1
 have hwx:IntKind.i64.wrap (x.refs - 1)=x.refs - 1:=IntWalk.i64_in _ oQ
 clear gY hk hm h1 h2
 go_enter Tryz.func38,Tryz.ntmps38
 go_wp2_with (with_reducible apply fH)
 refine ⟨fO h aj aj ?_⟩
 intro b6 w3 h3
 replace h3:Sat w0 w3 (dG s r t false::bW t mR BR::pt b6 (.cells (ay k).toArray 30 (0,0))::A1::A2::A3::A4::F):=h3.sb
 clear h
 have hok:=rO h3
 go_wp2_with fail
 refine hok.mono ?_
 rintro ee w5 ⟨v,rfl,rfl,rfl⟩
 clear hok
 go_wp2_with fail
 have h9:=h3.drew
 have hG:World.cell? _ ⟨s,1,none⟩=some (ptr t)∧World.rangeAt _ b6 0 (ay k):=⟨h9.cellP aH 1 rfl,fun j v hj=>h9.cellP dM (0+j) (by simpa using hj)⟩
 clear h3
 refine dh [5,6,7,8,10,11] (fun w'=>w'.cell? ⟨s,1,none⟩=some (ptr t)∧w'.rangeAt b6 0 (ay k)) au ?_
 refine rP 0 ?_ (y:=aG)
 refine rP 1 ?_ (y:=dL)
 refine rP 2 ?_ (y:=cO)
 refine rt 3 (h:=?_)
 refine dK 4 aj au bC (gu (b:=b6) (o:=0) (ay k) ah Tryz.underlying30 rfl (by rw [dW.out];kernel_rfl) (fun w hw=>hw.2)) aQ gQ ?_
 clear hG
 refine rM 5 9 aj aj au (fun K hK=>?_) (fun K hK=>?_)
 focus
  (refine eU au aj aj ?_)
  refine (lM.out _ _ (h9.sb:Sat w0 _ (bW t mR BR::pt b6 (.cells (ay k).toArray 30 (0,0))::dG s r t false::A1::A2::A3::A4::F))).mono ?_
  rintro ee w10 ⟨v,rfl,rfl,h10⟩
  refine hK _ _ (.inl rfl) ?_
  clear hK h9
  refine rP 6 ?_ (y:=aG)
  refine rP 7 ?_ (y:=(fC aj bT))
  refine rP 8 ?_ (y:=(fC aj bT))
  refine bG 9 aj au (fun K hK=>?_)
  refine kP (nH) h10 rfl ?_
  intro b8 fU h11
  refine hK _ _ (.inr (.inl ⟨h11.cellP iy 1 rfl,fun j v hj=>h11.cellP dM (0+j) (by simpa using hj)⟩)) ?_
  clear hK h10
 rotate_left
 focus
  refine kP (nH) h9 rfl ?_
  intro b8 w10 h10
  refine hK _ _ (.inr (.inl ⟨h10.cellP aP 1 rfl,fun j v hj=>h10.cellP iy (0+j) (by simpa using hj)⟩)) ?_
  clear hK h9
  refine bG 5 aj au (fun K hK=>?_)
  (refine eU au aj aj ?_)
  refine (lM.out _ _ (h10.sb:Sat w0 _ (bW t mR BR::pt b8 (.cells (aN gJ).toArray 60 (0,0))::pt b6 (.cells (ay k).toArray 30 (0,0))::dG s r t false::A1::A2::A3::A4::F))).mono ?_
  rintro ee fU ⟨v,rfl,rfl,mZ⟩
  refine hK _ _ (.inl rfl) ?_
  clear hK h10
  have h11:Sat w0 fU (pt b8 (.cells (aN gJ).toArray 60 (0,0))::bW t mR BR::pt b6 (.cells (ay k).toArray 30 (0,0))::dG s r t false::A1::A2::A3::A4::F):=mZ.sb
  clear mZ
  refine rP 6 ?_ (y:=aG)
  refine rP 7 ?_ (y:=(fC aj bT))
  refine rP 8 ?_ (y:=(fC aj bT))
 all_goals
  refine bG 10 aj au (fun K hK=>?_)
  refine jD (cs':=(aN x).toArray) h11 aj aj ah bJ bH au ah ?_
  intro w12 h12
  refine hK _ _ (.inl rfl) ?_
  clear hK h11
  refine rP 11 ?_ (y:=dN)
  refine cu au ?_
  have h13:Sat w0 w12 (dG s r t false::A1::A2::A3::A4::pt b8 (.cells (aN x).toArray 60 (0,0))::bW t mR BR::pt b6 (.cells (ay k).toArray 30 (0,0))::F):=h12.sb
  clear h12
  have e8:w12.cell? ⟨b8,0,none⟩=some (.int .i64 x.refs):=h13.cellP (aO (aO (aO (aO (aO aH))))) 0 rfl
  go_wp2_with fail
  clear e8 c1
  have h15:=h13.drew
  have hG:World.cell? _ ⟨s,1,none⟩=some (ptr t)∧(World.cell? _ ⟨b8,0,none⟩=some (.int .i64 x.refs)∧World.cell? _ ⟨b8,1,none⟩=some (.int .i64 x.size))∧World.rangeAt _ b6 0 (ay k):=⟨h15.cellP aH 1 rfl,⟨h15.cellP EX 0 rfl,h15.cellP EX 1 rfl⟩,fun j v hj=>h15.cellP EY (0+j) (by simpa using hj)⟩
  clear h13
  refine dh [11] (fun w'=>w'.cell? ⟨s,1,none⟩=some (ptr t)∧(w'.cell? ⟨b8,0,none⟩=some (.int .i64 x.refs)∧w'.cell? ⟨b8,1,none⟩=some (.int .i64 x.size))∧w'.rangeAt b6 0 (ay k)) au ?_
  refine rP 0 ?_ (y:=aG)
  refine rP 1 ?_ (y:=dL)
  refine rP 2 ?_ (y:=cO)
  refine rt 3 (h:=?_)
  refine dK 4 aj au bC (gu (b:=b6) (o:=0) (ay k) ah Tryz.underlying30 rfl (by rw [dW.out];kernel_rfl) (fun w hw=>hw.2.2)) aQ gQ ?_
  refine rP 5 ?_ (y:=cO)
  refine rt 6 (h:=?_)
  refine rP 7 ?_ (y:=dB)
  refine rP 8 ?_ (y:=cO)
  refine rt 9 (h:=?_)
  clear hG
  refine rp 10 (hy:=(LP aj aj (fun w=>Uc (x.refs - 1) x.size w))) (h:=?_)
  refine bG 11 aj au (fun K hK=>?_)
  (refine vU au aj aj aj ?_)
  refine (ql.out _ _ (h15.sb:Sat w0 _ (bW t mR BR::pt b6 (.cells (ay k).toArray 30 (0,0))::dG s r t false::A1::A2::A3::A4::F))).mono ?_
  rintro ee w16 ⟨v,rfl,h16⟩
  refine hK _ _ (.inl rfl) ?_
  clear hK h15 hwx
  refine cu au ?_
  go_wp2_with fail
  go_ret
  exact ⟨_,rfl,rfl,h16.sb⟩
set_option maxRecDepth 20000 in
theorem afy (gY:BR≤134217000) (hk:k.length=32) (hm:mR k=some x) (h1:x.refs≤1) (hd:LX w0 F A1 A2 A3 A4 B1 B2 B3 B4 r k) (h:Sat w0 w (dG s r t false::bW t mR BR::A1::A2::A3::A4::F)) :
  Calls Tryz.prog 38 #[ptr s,.agg (ay k).toArray] w (aI fun v w'=>v=errno 0∧Sat w0 w' (dG s r t false::bW t (Tab.del mR k) BR::B1::B2::B3::B4::F)):=by
 have dW:=uQ (show (ay k).length=32 by rw [aU,hk])
 have lM:=uQ (fun (w':World) (R:List aC) (hw:Sat w0 w' (bW t mR BR::R))=>zH (k:=k) (Nat.le_trans gY aJ) hk hw)
 rw [hm,Option.getD_some,Option.isSome_some]at lM
 have uY:=uQ (fun (w':World) (R:List aC) (hw:Sat w0 w' (bW t mR BR::R))=>YO gY hk hw)
 rw [hm,Option.isSome_some]at uY
 generalize Tab.del mR k=JE at *
 have c1:¬ (1:Int)<x.refs:=oQ
 have Hd:=uQ hd
 clear gY hk hm h1 hd
 go_enter Tryz.func38,Tryz.ntmps38
 go_wp2_with (with_reducible apply fH)
 refine ⟨fO h aj aj ?_⟩
 intro b6 w3 h3
 replace h3:Sat w0 w3 (dG s r t false::bW t mR BR::pt b6 (.cells (ay k).toArray 30 (0,0))::A1::A2::A3::A4::F):=h3.sb
 clear h
 have hok:=rO h3
 go_wp2_with fail
 refine hok.mono ?_
 rintro ee w5 ⟨v,rfl,rfl,rfl⟩
 clear hok
 go_wp2_with fail
 have h9:=h3.drew
 have hG:World.cell? _ ⟨s,1,none⟩=some (ptr t)∧World.rangeAt _ b6 0 (ay k):=⟨h9.cellP aH 1 rfl,fun j v hj=>h9.cellP dM (0+j) (by simpa using hj)⟩
 clear h3
 refine dh [5,6,7,8,10,11] (fun w'=>w'.cell? ⟨s,1,none⟩=some (ptr t)∧w'.rangeAt b6 0 (ay k)) au ?_
 refine rP 0 ?_ (y:=aG)
 refine rP 1 ?_ (y:=dL)
 refine rP 2 ?_ (y:=cO)
 refine rt 3 (h:=?_)
 refine dK 4 aj au bC (gu (b:=b6) (o:=0) (ay k) ah Tryz.underlying30 rfl (by rw [dW.out];kernel_rfl) (fun w hw=>hw.2)) aQ gQ ?_
 clear hG
 refine rM 5 9 aj aj au (fun K hK=>?_) (fun K hK=>?_)
 focus
  (refine eU au aj aj ?_)
  refine (lM.out _ _ (h9.sb:Sat w0 _ (bW t mR BR::pt b6 (.cells (ay k).toArray 30 (0,0))::dG s r t false::A1::A2::A3::A4::F))).mono ?_
  rintro ee w10 ⟨v,rfl,rfl,h10⟩
  refine hK _ _ (.inl rfl) ?_
  clear hK h9
  refine rP 6 ?_ (y:=aG)
  refine rP 7 ?_ (y:=(fC aj bT))
  refine rP 8 ?_ (y:=(fC aj bT))
  refine bG 9 aj au (fun K hK=>?_)
  refine kP (nH) h10 rfl ?_
  intro b8 fU h11
  refine hK _ _ (.inr (.inl ⟨h11.cellP iy 1 rfl,fun j v hj=>h11.cellP dM (0+j) (by simpa using hj)⟩)) ?_
  clear hK h10
 rotate_left
 focus
  refine kP (nH) h9 rfl ?_
  intro b8 w10 h10
  refine hK _ _ (.inr (.inl ⟨h10.cellP aP 1 rfl,fun j v hj=>h10.cellP iy (0+j) (by simpa using hj)⟩)) ?_
  clear hK h9
  refine bG 5 aj au (fun K hK=>?_)
  (refine eU au aj aj ?_)
  refine (lM.out _ _ (h10.sb:Sat w0 _ (bW t mR BR::pt b8 (.cells (aN gJ).toArray 60 (0,0))::pt b6 (.cells (ay k).toArray 30 (0,0))::dG s r t false::A1::A2::A3::A4::F))).mono ?_
  rintro ee fU ⟨v,rfl,rfl,mZ⟩
  refine hK _ _ (.inl rfl) ?_
  clear hK h10
  have h11:Sat w0 fU (pt b8 (.cells (aN gJ).toArray 60 (0,0))::bW t mR BR::pt b6 (.cells (ay k).toArray 30 (0,0))::dG s r t false::A1::A2::A3::A4::F):=mZ.sb
  clear mZ
  refine rP 6 ?_ (y:=aG)
  refine rP 7 ?_ (y:=(fC aj bT))
  refine rP 8 ?_ (y:=(fC aj bT))
 all_goals
  refine bG 10 aj au (fun K hK=>?_)
  refine jD (cs':=(aN x).toArray) h11 aj aj ah bJ bH au ah ?_
  intro w12 h12
  refine hK _ _ (.inl rfl) ?_
  clear hK h11
  refine rP 11 ?_ (y:=dN)
  refine cu au ?_
  have h13:Sat w0 w12 (dG s r t false::A1::A2::A3::A4::pt b8 (.cells (aN x).toArray 60 (0,0))::bW t mR BR::pt b6 (.cells (ay k).toArray 30 (0,0))::F):=h12.sb
  clear h12
  have e8:w12.cell? ⟨b8,0,none⟩=some (.int .i64 x.refs):=h13.cellP (aO (aO (aO (aO (aO aH))))) 0 rfl
  go_wp2_with fail
  clear e8 c1
  have h15:=h13.drew
  have hG:World.cell? _ ⟨s,0,none⟩=some (ptr r)∧World.rangeAt _ b6 0 (ay k):=⟨h15.cellP aH 0 rfl,fun j v hj=>h15.cellP EY (0+j) (by simpa using hj)⟩
  clear h13
  refine dh [5,6] (fun w'=>w'.cell? ⟨s,0,none⟩=some (ptr r)∧w'.rangeAt b6 0 (ay k)) au ?_
  refine rP 0 ?_ (y:=aG)
  refine rP 1 ?_ (y:=dL)
  refine rP 2 ?_ (y:=cO)
  refine rt 3 (h:=?_)
  refine dK 4 aj au bC (gu (b:=b6) (o:=0) (ay k) ah Tryz.underlying30 rfl (by rw [dW.out];kernel_rfl) (fun w hw=>hw.2)) aQ gQ ?_
  clear hG
  refine bG 5 aj au (fun K hK=>?_)
  (refine eU au aj aj ?_)
  refine (Hd.out _ (dG s r t false::bW t mR BR::pt b6 (.cells (ay k).toArray 30 (0,0))::F) (jv (jv (jv wV))) (h15.sb)).mono ?_
  rintro ee w16 ⟨v,rfl,rfl,h16⟩
  refine hK _ _ (.inl rfl) ?_
  clear hK h15
  refine rP 6 ?_ (y:=dN)
  refine cu au ?_
  go_wp2_with fail
  have h17:=h16.drew
  have hG:World.cell? _ ⟨s,1,none⟩=some (ptr t)∧World.rangeAt _ b6 0 (ay k):=⟨h17.cellP ny 1 rfl,fun j v hj=>h17.cellP J8 (0+j) (by simpa using hj)⟩
  clear h16
  refine dh [5] (fun w'=>w'.cell? ⟨s,1,none⟩=some (ptr t)∧w'.rangeAt b6 0 (ay k)) au ?_
  refine rP 0 ?_ (y:=aG)
  refine rP 1 ?_ (y:=dL)
  refine rP 2 ?_ (y:=cO)
  refine rt 3 (h:=?_)
  refine dK 4 aj au bC (gu (b:=b6) (o:=0) (ay k) ah Tryz.underlying30 rfl (by rw [dW.out];kernel_rfl) (fun w hw=>hw.2)) aQ gQ ?_
  clear hG
  refine bG 5 aj au (fun K hK=>?_)
  (refine eU au aj aj ?_)
  refine (uY.out _ _ (h17.sb:Sat w0 _ (bW t mR BR::pt b6 (.cells (ay k).toArray 30 (0,0))::dG s r t false::B1::B2::B3::B4::F))).mono ?_
  rintro ee w18 ⟨v,rfl,rfl,h18⟩
  refine hK _ _ (.inl rfl) ?_
  clear hK h17
  refine cu au ?_
  go_wp2_with fail
  go_ret
  exact ⟨_,rfl,rfl,h18.sb⟩
end
open Go.Sort
abbrev oM:Type:={ x:Tab.Slot (Rep.dU) // x.key.length=32 }
instance:Inhabited oM:=⟨⟨⟨0,ak.zero32,⟨0,0⟩⟩,rfl⟩⟩
section
variable {w0 w:World}{F:List aC}{v:Value}
theorem aft (l:List (Tab.Slot (Rep.dU))) (hk:∀ x∈l,x.key.length=32) (hn:l.length≤1073741824) (h:Sat w0 w (aF 120 35 v (l.flatMap (slotL aN))::F)) :
  Calls Tryz.prog 149 #[v,.func (.func 150) #[] #[]] w (aI fun _ w'=>∃ l':List (Tab.Slot (Rep.dU)),(l'.Perm l∧l'.Pairwise fun a b=>¬ b.key<a.key)∧Sat w0 w' (aF 120 35 v (l'.flatMap (slotL aN))::F)):=by
 have hlen:∀ x∈l,(slotL aN x).length=35:=fun x hx=>gB aN x (hk x hx) 2 (rJ _)
 rcases h.jR with ⟨rfl,hn',h'⟩|⟨g,n,cap,cs,rfl,hl,hn',hc,hcm,htk,hp⟩
 ·obtain rfl:l=[]:=by
   cases l with
   |nil=>rfl
   |cons x l=>rw [List.flatMap_cons]at hn';have:=congrArg List.length hn';rw [List.length_append,hlen x (.head _)]at this;simp at this
  refine (AnyF.slices_SortFunc_none Tryz.sortR none 0 (.func (.func 150) #[] #[]) w).mono ?_
  rintro e w1 ⟨rfl,rfl⟩
  exact ⟨_,rfl,[],⟨.refl _,.nil⟩,h⟩
 ·rw [jr hlen,Nat.mul_comm]at hl
  obtain rfl:n=l.length:=(Nat.eq_of_mul_eq_mul_right aJ hl).symm
  let d:Array oM:=(l.attach.map fun x=>(⟨x.1,hk x.1 x.2⟩:oM)).toArray
  have hd:d.toList.map (·.1)=l:=by
   show (l.attach.map fun x=>(⟨x.1,hk x.1 x.2⟩:oM)).map (·.1)=l
   rw [List.map_map]
   exact List.attach_map_subtype_val l
  have hds:d.size=l.length:=by rw [← hd,List.length_map,Array.length_toList]
  have hke:∀ x:oM,((fun x:oM=>slotL aN x.1) x).length=35:=fun x=>gB aN x.1 x.2 2 (rJ _)
  have hfl:∀ d:Array oM,(flatK (fun x:oM=>slotL aN x.1) 35 d).toList=(d.toList.map (·.1)).flatMap (slotL aN):=fun d=>by
   rw [Pm hke aJ,List.flatMap_map]
  have hH:HoldsK (fun x:oM=>slotL aN x.1) 35 w g 0 d:=QD hp.at (by rw [size_flatK,hds,hfl,hd];exact htk)
  refine (AnyQ.slices_SortFunc Tryz.sortR 35 Tryz.isAgg120 Tryz.sizeOf120 (fun x:oM=>slotL aN x.1) hke (fun x v hv=>List.all_eq_true.1 (kJ aN x.1 (yF _)) v hv) (fun x y=>Lib.compareBytes x.1.key y.1.key) (Tab.UU fun x:oM=>x.1.key) 150 #[] g 0 cap d w (fun args w=>by kernel_rfl) (fun m os dk _ x y=>Yz x.1 y.1 x.2 y.2 _) hH hp.lt oQ |> fun q=>(by rw [hds]at q;exact q:Calls Tryz.prog 149 #[.slice (some ⟨g,0,none⟩) l.length cap,.func (.func 150) #[] #[]] w _)).mono ?_
  rintro e w1 ⟨rfl,d',n',os,hpm,hst,rfl⟩
  obtain ⟨q1,q2⟩:=Tab.UE (key:=fun x:oM=>x.1.key) (by rw [hds];exact hpm) (by rw [hds];exact hst)
  have hl':d'.toList.length=l.length:=by rw [q1.length_eq,Array.length_toList,hds]
  have hS:=Ul (n:=n') (os:=os) hp (flatK (fun x:oM=>slotL aN x.1) 35 d')
  have hsz':(flatK (fun x:oM=>slotL aN x.1) 35 d').size=l.length * 35:=by rw [size_flatK,← Array.length_toList,hl']
  refine ⟨_,rfl,d'.toList.map (·.1),⟨by rw [← hd];exact q1.map _,List.pairwise_map.2 q2⟩,?_⟩
  refine hS.jV ?_ hn' (by simpa [Sort.putCells] using hc) hcm ?_
  ·rw [← hfl,Array.length_toList,hsz']
  ·rw [← hfl,← hsz']
   refine U2 _ ?_
   have:l.length * 35≤cap * 35:=Nat.mul_le_mul_right _ hn'
   omega
end
end Go.Proofs.YtlimfgdbfadohaaGreatDoor
namespace Go.Proofs.YtlimfgdbfadohaaGreatDoor
open Go Go.Sl Go.aB Go.MapKept Go.RowKit
section
variable {w0 w:World}{F R:List aC}{p B:Nat}{sv v:Value}{k:ak.Bs}{m:ak.Bs→Option (Rep.dU)}{t:Tab.Tb (Rep.dU)}
set_option maxRecDepth 20000 in
theorem adN (hB:B≤13000000) (h:Sat w0 w (bW p m B::F)) :
  Calls Tryz.prog 105 #[ptr p] w (aI fun v w'=>∃ l:List (Tab.Slot (Rep.dU)),(Tab.Lists m (l.map fun x=>(x.key,x.val))∧(∀ x∈l,x.st=1∧x.key.length=32)∧l.length≤B)∧Sat w0 w' (aF 120 35 v (l.flatMap (slotL aN))::bW p m B::F)):=by
 obtain ⟨t,sv,⟨ok,is,hb⟩,hR⟩:=bW.open h
 have hsz:t.slots.length≤56000000:=by have:=ok.size;omega
 have Hlen:=uQ (show ∀ x∈t.slots,(slotL aN x).length=35 from fun x hx=>gB aN x (ok.good.key x hx) 2 (rJ _))
 obtain ⟨la,lc,rfl⟩:=jm Hlen.out (Sat.rd (hR.pick aP)) aJ
 have bY:=uQ ok;have fF:=uQ is;have Hb:=uQ hb;have dw:=uQ hsz;have fZ:=uQ ok.good.gZ
 clear h ok is hb hB
 have hS0:Sat w0 w (aF 120 35 (.slice none 0 0) []::dR p 123 (.slice la t.slots.length lc) t.n t.gone::aF 120 35 (.slice la t.slots.length lc) (t.slots.flatMap (slotL aN))::F):=Sat.fM.2 hR
 clear hR
 go_enter Tryz.func105,Tryz.ntmps105
 go_wp2_with fail
 refine (EP fZ.out (hS0.pick aP)).mono ?_
 rintro ee w7 ⟨v,rfl,rfl,rfl⟩
 go_wp2_with ((with_reducible refine bI ⟨?_⟩);refine gK hS0 ah aY bH aj au ?_)
 go_loopg [3,14] t.slots.length (fun g oq iq wr=>∃ (i:Nat),g=t.slots.length - i∧i≤t.slots.length∧iq = .int .i64 i ∧
  Sat w0 wr (aF 120 35 oq (((t.slots.take i).filter fun x=>decide (x.st=1)).flatMap (slotL aN))::dR p 123 (.slice la t.slots.length lc) t.n t.gone::aF 120 35 (.slice la t.slots.length lc) (t.slots.flatMap (slotL aN))::F))
 case atStart=>exact ⟨0,rfl,Nat.zero_le _,rfl,hS0⟩
 case round=>
  obtain ⟨i,rfl,hi,rfl,hS⟩:=hrel
  clear hS0
  by_cases hlt:i<t.slots.length
  rotate_left
  ·obtain rfl:i=t.slots.length:=by omega
   have c1:¬ (t.slots.length:Int)<(t.slots.length:Int):=oQ
   rw [List.take_length]at hS
   have hfk:∀ x∈t.slots.filter fun x=>decide (x.st=1),x.key.length=32:=fun x hx=>bY.out.good.key x (List.mem_filter.1 hx).1
   have hs:=aft (t.slots.filter fun x=>decide (x.st=1)) hfk (Nat.le_trans (List.length_filter_le _ _) (Nat.le_trans hsz aJ)) hS
   clear hlt hi hS hfk
   go_wp2_with fail
   refine hs.mono ?_
   rintro ee w8 ⟨v,rfl,l,⟨h1,h2⟩,fG⟩
   clear hs
   have Hl:=uQ (Tab.Jz bY.out.good fF.out h1 h2)
   have Hll:=uQ (show l.length≤B from by
    rw [h1.length_eq,← List.countP_eq_length_filter]
    have e:t.slots.countP (fun x=>decide (x.st=1))=Tab.jg t.slots:=by
     unfold Tab.jg
     refine List.countP_congr fun x _=>?_
     simp
    have:=bY.out.n;have:=Hb.out;omega)
   clear h1 h2
   go_wp2_with fail
   go_ret
   exact ⟨_,rfl,l,⟨Hl.out.1,Hl.out.2,Hll.out⟩,Sat.Tc (bW.shut bY.out fF.out Hb.out (fG.sb))⟩
  have c1:(i:Int)<(t.slots.length:Int):=oQ
  have hwi:=pU (i:=i)
  obtain ⟨x,hx⟩:∃ x,t.slots[i]?=some x:=⟨_,List.getElem?_eq_getElem hlt⟩
  have hxm:=List.mem_of_getElem? hx
  have hst:=bY.out.good.st x hxm
  have Hxk:=uQ (bY.out.good.key x hxm)
  obtain ⟨bk,off,c',hsv,hcell⟩:=mJ Hlen.out (Sat.rd (hS.pick dM)) hx aJ
  cases hsv
  have fA:=Hlen.out x hxm
  have htk:(t.slots.take (i+1)).filter (fun x=>decide (x.st=1))=(t.slots.take i).filter (fun x=>decide (x.st=1))++[x].filter fun x=>decide (x.st=1):=by
   rw [List.take_add_one,hx,Option.toList_some,List.filter_append]
  have iM:=uQ htk
  have dH:=uQ hlt
  have Ja:(((t.slots.take i).filter fun x=>decide (x.st=1)).flatMap (slotL aN)).length≤2147483648:=by
   rw [jr fun y hy=>Hlen.out y (List.mem_of_mem_take (List.mem_filter.1 hy).1)]
   have h1:=List.length_filter_le (fun x=>decide (x.st=1)) (t.slots.take i)
   have h2:=List.length_take_le' i t.slots
   have h3:=dw.out
   omega
  clear hx hxm hlt hi htk
  go_wp2_with (first
   |((with_reducible refine bI ⟨?_⟩);refine jw (b:=bk) (o:=off+i * 35) (slotL aN x) ah hcell Tryz.underlying120 rfl (by rw [fA];kernel_rfl) ?_)
   |(with_reducible apply dY))
  refine ⟨dS xk hS rfl ?_⟩
  intro b7 w7 hS7
  go_wp2_with (first|((with_reducible refine bU ⟨?_⟩);refine eH (slotL aN x).toArray hS7 ah ah (by rw [List.size_toArray,fA];rfl) bJ (by rw [List.size_toArray,fA];kernel_rfl) (by rw [List.toList_toArray];exact kJ aN x (yF _)) ?_;intro w10 bP)|(with_reducible apply bI))
  refine ⟨?_⟩
  clear hS hS7 hcell
  have f0:w10.cell? ⟨b7,0,none⟩=some (.int .i64 x.st):=bP.cellP aH 0 (by rw [List.getElem?_toArray];rfl)
  by_cases h1:x.st=1
  rotate_left
  ·have hst1:((x.st:Int)==1)=false:=by rw [beq_eq_false_iff_ne];omega
   have e9:(t.slots.take (i+1)).filter (fun x=>decide (x.st=1))=(t.slots.take i).filter (fun x=>decide (x.st=1)):=by
    rw [iM.out,List.filter_cons_of_neg (by rw [decide_eq_false h1];decide),List.filter_nil,List.append_nil]
   have E9:=uQ e9
   clear h1 e9
   go_wp2_with fail
   go_roundg (t.slots.length - (i+1))
   case measure=>have:=dH.out;omega
   case rel=>exact ⟨i+1,rfl,dH.out,by first|rfl|go_num,by rw [E9.out];exact bP.sb⟩
  ·have hst1:((x.st:Int)==1)=true:=by rw [h1];rfl
   have e9:((t.slots.take (i+1)).filter (fun x=>decide (x.st=1))).flatMap (slotL aN)=((t.slots.take i).filter (fun x=>decide (x.st=1))).flatMap (slotL aN)++slotL aN x:=by
    rw [iM.out,List.filter_cons_of_pos (by rw [decide_eq_true h1]),List.filter_nil,List.flatMap_append,List.flatMap_cons,List.flatMap_nil,List.append_nil]
   have E9:=uQ e9
   clear h1 e9
   go_wp2_with (first
    |((with_reducible refine bI ⟨?_⟩);refine fB bP ah aY Tryz.underlying120 rfl (by rw [List.size_toArray,fA];kernel_rfl) ?_)
    |(with_reducible apply kU))
   refine ⟨lu (e:=120) (sz:=35) (dX:=56) au bP ah (cs:=(slotL aN x).toArray) rfl (by rw [List.size_toArray,fA]) aJ ?_⟩
   intro bN wN hN
   go_wp2_with (with_reducible apply jf)
   refine ⟨lq 120 35 56 au hN ah ah aY aH (by rw [List.size_toArray,fA]) (Nat.le_refl 1) (by rw [List.toList_toArray];exact kJ aN x (yF _)) Ja (by rw [List.size_toArray,fA];decide) aJ (by rw [List.toList_toArray]) ?_⟩
   intro bA nA cA wA hA
   go_wp2_with fail
   rw [← E9.out]at hA
   go_roundg (t.slots.length - (i+1))
   case measure=>have:=dH.out;omega
   case rel=>exact ⟨i+1,rfl,dH.out,by first|rfl|go_num,hA.sb⟩
end
def oO (x:ak.Bs×Rep.dU):Array Value:=#[.agg (ay x.1).toArray,.agg (aN x.2).toArray]
section
variable {w0 w:World}{F:List aC}{p B:Nat}{m:ak.Bs→Option (Rep.dU)}
theorem XL (h:Sat w0 w F):Calls Tryz.prog 70 #[ptr p] w
  (aI fun v w'=>∃ b,v = .func (.func 104) #[] #[ptr b]∧Sat w0 w' (pt b (.cells #[ptr p] 62 (0,0))::F)):=by
 go_enter Tryz.func70,Tryz.ntmps70
 go_wp2_with (first|((with_reducible refine fH ⟨?_⟩);refine fO aQ aj aj ?_;intro bB wB hB)|(with_reducible apply dY))
 go_ret
 exact ⟨_,rfl,bB,rfl,hB⟩
set_option maxRecDepth 20000 in
theorem XK {b:Nat}{l:List (ak.Bs×Rep.dU)} (hB:B≤13000000) (hl:Tab.Lists m l) :
  Iter Tryz.prog 104 #[ptr b] (l.map oO) w0 [bW p m B,pt b (.cells #[ptr p] 62 (0,0))] [bW p m B,pt b (.cells #[ptr p] 62 (0,0))]:=by
 intro ly R hY W hW
 have Hl:=uQ hl
 have hW0:Sat w0 W (bW p m B::pt b (.cells #[ptr p] 62 (0,0))::R []):=hW
 clear hW hl
 show Calls Tryz.prog 104 #[.func (.yield ly) #[] #[],ptr b] W _
 go_enter Tryz.func104,Tryz.ntmps104
 have hr:=adN hB hW0
 go_wp2_with ((with_reducible refine bI ⟨?_⟩);refine gK hW0 ah aY bH aj au ?_)
 clear hW0
 refine hr.mono ?_
 rintro ee w1 ⟨sv,rfl,s,⟨hs1,hs2,hs3⟩,hS1⟩
 clear hr
 have e0:l=s.map fun x=>(x.key,x.val):=Hl.out.unique hs1
 clear hs1 Hl
 subst e0
 have GN:=uQ hs2;have Xe:=uQ hs3
 have Hlen:=uQ (show ∀ x∈s,(slotL aN x).length=35 from fun x hx=>gB aN x (hs2 x hx).2 2 (rJ _))
 obtain ⟨la,lc,rfl⟩:=jm Hlen.out (Sat.rd hS1) aJ
 have hsb:s.length≤13000000:=Nat.le_trans hs3 hB
 clear hs2 hs3 hB
 go_wp2_with fail
 go_loopg [8] s.length (fun g iq wr=>∃ (i:Nat),g=s.length - i∧i≤s.length∧iq = .int .i64 i ∧
  Sat w0 wr (aF 120 35 (.slice la s.length lc) (s.flatMap (slotL aN))::bW p m B::pt b (.cells #[ptr p] 62 (0,0))::R (((s.take i).map fun x=>(x.key,x.val)).map oO)))
 case atStart=>exact ⟨0,rfl,Nat.zero_le _,rfl,hS1⟩
 case round=>
  obtain ⟨i,rfl,hi,rfl,hS⟩:=hrel
  clear hS1
  by_cases hlt:i<s.length
  rotate_left
  ·obtain rfl:i=s.length:=by omega
   have c1:¬ (s.length:Int)<(s.length:Int):=oQ
   rw [List.take_length]at hS
   clear hlt hi
   go_wp2_with fail
   go_end0
   exact ⟨_,rfl,by rw [← List.map_map];exact hS.drop⟩
  have c1:(i:Int)<(s.length:Int):=oQ
  have hwi:=pU (i:=i)
  obtain ⟨x,hx⟩:∃ x,s[i]?=some x:=⟨_,List.getElem?_eq_getElem hlt⟩
  have hxm:=List.mem_of_getElem? hx
  have Hxk:=uQ (GN.out x hxm).2
  obtain ⟨bk,off,c',hsv,hcell⟩:=mJ Hlen.out (Sat.rd (hS.pick aH)) hx aJ
  cases hsv
  have I9:=Hlen.out x hxm
  have iM:=uQ (show s.take (i+1)=s.take i++[x] by rw [List.take_add_one,hx,Option.toList_some])
  have dH:=uQ hlt
  have yZ:=uQ (show (s.map fun x=>(x.key,x.val)).map oO=((s.take i).map fun x=>(x.key,x.val)).map oO++oO (x.key,x.val)::((s.drop (i+1)).map fun x=>(x.key,x.val)).map oO by
   have e:s=s.take i++x::s.drop (i+1):=by
    obtain ⟨h1,rfl⟩:=List.getElem?_eq_some_iff.1 hx
    rw [← List.drop_eq_getElem_cons h1,List.take_append_drop]
   conv=>lhs;rw [e]
   simp only [List.map_append,List.map_cons])
  clear hx hxm hlt hi
  go_wp2_with (first
   |((with_reducible refine bI ⟨?_⟩);refine jw (b:=bk) (o:=off+i * 35) (slotL aN x) ah hcell Tryz.underlying120 rfl (by rw [I9];kernel_rfl) ?_)
   |(with_reducible apply dY))
  refine ⟨dS xk hS rfl ?_⟩
  intro b7 w7 hS7
  go_wp2_with ((with_reducible apply bU))
  refine ⟨eH (slotL aN x).toArray hS7 ah ah (by rw [List.size_toArray,I9];rfl) bJ (by rw [List.size_toArray,I9];kernel_rfl) (by rw [List.toList_toArray];exact kJ aN x (yF _)) ?_⟩
  intro w10 bP
  clear hS hS7 hcell
  have f1:w10.rangeAt b7 1 (ay x.key):=qL (bP.pick aH)
  have f2:w10.rangeAt b7 33 (aN x.val):=UD Hxk.out (bP.pick aH)
  have e1:=Tryz.underlying30
  have iR:Sat w0 w10 (R (((s.take i).map fun x=>(x.key,x.val)).map oO)++[aF 120 35 (.slice (some ⟨bk,off,none⟩) s.length lc) (s.flatMap (slotL aN)),bW p m B,pt b (.cells #[ptr p] 62 (0,0))]):=
   (bP.drop:Sat w0 w10 ([aF 120 35 (.slice (some ⟨bk,off,none⟩) s.length lc) (s.flatMap (slotL aN)),bW p m B,pt b (.cells #[ptr p] 62 (0,0))]++R (((s.take i).map fun x=>(x.key,x.val)).map oO))).zf
  obtain ⟨yf,yt,ya,yb,hy,hr⟩:=hY _ _ _ w10 _ yZ.out iR
  clear iR bP hY
  go_step
  go_step
  go_step
  refine TF ah ?_
  intro K hK
  go_wp2_with (first
   |((with_reducible refine bI ⟨?_⟩);refine jw (b:=b7) (o:=1) (ay x.key) ah f1 e1 rfl (by rw [aU,Hxk.out];kernel_rfl) ?_)
   |((with_reducible refine bI ⟨?_⟩);refine jw (b:=b7) (o:=33) (aN x.val) ah f2 Tryz.underlying60 rfl au ?_))
  refine ⟨_,yf,yt,ya,yb,hy,hr.mono ?_⟩
  rintro ee w12 ⟨rfl,gq⟩
  refine ⟨_,rfl,?_⟩
  have nK:Sat w0 w12 (aF 120 35 (.slice (some ⟨bk,off,none⟩) s.length lc) (s.flatMap (slotL aN))::bW p m B::pt b (.cells #[ptr p] 62 (0,0))::R (((s.take (i+1)).map fun x=>(x.key,x.val)).map oO)):=by
   have:=gq.zf
   rw [iM.out,List.map_append,List.map_append]
   exact this
  clear gq hr hy f1 f2
  go_wp2_with fail
  go_roundg (s.length - (i+1))
  case measure=>have:=dH.out;omega
  case rel=>exact ⟨i+1,rfl,dH.out,by first|rfl|go_num,nK⟩
end
def kL (q:ak.Bs×Rep.dU):List Value:=ay q.1++aN q.2
theorem zo (q:ak.Bs×Rep.dU) (hk:q.1.length=32):(kL q).length=34:=by unfold kL;rw [List.length_append,aU,hk];rfl
theorem Yn (q:ak.Bs×Rep.dU):(kL q).all (·.oneCell')=true:=by unfold kL;rw [List.all_append,D7];rfl
theorem acT:qJ Tryz.prog 147=some [(0,32),(32,2)]:=by kernel_rfl
theorem zCd:iH Tryz.prog 147=some (.agg (kL (ak.zero32,gJ)).toArray):=by kernel_rfl
theorem aen (k:ak.Bs) (hk:k.length=32) (v:Rep.dU) (w:World):(Instr.build 147 #[(0,.agg (ay k).toArray),(1,.agg (aN v).toArray)]).run Tryz.prog w = .ok (.agg (kL (k,v)).toArray) w:=by
 have h:=run_build (P:=Tryz.prog) [(0,.agg (ay k).toArray),(1,.agg (aN v).toArray)] acT zCd (by
  intro p hp
  have hzz:(Value.agg (kL (ak.zero32,gJ)).toArray).cells.size=34:=by rfl
  rw [hzz]
  rcases List.mem_cons.1 hp with rfl|hp
  ·refine ⟨0,?_,?_⟩
   ·show some (0,32)=some (0,(ay k).toArray.size);rw [List.size_toArray,aU,hk]
   ·show 0+(ay k).toArray.size≤34
    rw [List.size_toArray,aU,hk];decide
  ·rw [List.mem_singleton.1 hp]
   exact ⟨32,rfl,by show 32+2≤34;omega⟩) w
 refine h.trans ?_
 have hz:ak.zero32.length=32:=rfl
 have hzl:(kL (ak.zero32,gJ)).length=34:=zo _ hz
 have e:eG (eG (kL (ak.zero32,gJ)).toArray 0 (ay k)) 32 (aN v)=(kL (k,v)).toArray:=by
  apply rH
  rw [CS _ _ _ (by rw [kZ,List.size_toArray,hzl];exact Nat.le_refl 34),CS _ _ _ (by rw [List.size_toArray,hzl,aU,hk];decide),List.toList_toArray]
  have e1:jF (kL (ak.zero32,gJ)) 0 (ay k)=ay k++aN gJ:=by
   unfold kL
   rw [Fa _ _ _ _ (by rw [aU,aU,hk,hz];decide),E8 (by rw [aU,aU,hk,hz])]
  have h0:=zO (ay k) (aN gJ) (aN v) 0
  rw [aU,hk,E8 (xs:=aN gJ) (vs:=aN v) ah]at h0
  rw [e1]
  exact h0
 exact congrArg (fun x=>Result.ok (Value.agg x) w) e
theorem ady {fn:Func}{t:Tmp} (h:fn.results=#[.tmp t]) (tmps:Array Value) (P:Program) (w:World):(results fn tmps).run P w = .ok (tmps.getD t undef) w:=by
 simp only [results,h]
 simp
theorem Zc {P:Program}{w0 w:World}{F:List aC}{fn:Func}{a:Act}{K:Ending→World→Prop}{D:Nat}{v:Value} (ha:a.defers=[{ target:= .collected D,args:=#[] }]) (h:Sat w0 w (pt D (.deferred (some []))::F)) (hv:∀ w,(results fn a.tmps).run P w = .ok v w)
  (hK:∀ w',Sat w0 w' F→K (.returned v) w'):Ip P fn K .ret a w:=by
 show LeavesInM Fence.wide 0 P fn a.tmps K a.defers .returning w
 rw [ha]
 exact Ru h hv hK
def qI (b:Nat) (xs:List (ak.Bs×Rep.dU)):aC:=Sl.ex fun ov:Value=>star (pt b (.cells #[ov] 91 (0,0))) (aF 147 34 ov (xs.flatMap kL))
section
variable {w0 w:World}{F:List aC}{p B b:Nat}{m:ak.Bs→Option Rep.dU}{kv xs:List (ak.Bs×Rep.dU)}{s r:Nat}{st:Bool}
theorem SS (h:Sat w0 w (qI b xs::F)):∃ ov,Sat w0 w (pt b (.cells #[ov] 91 (0,0))::aF 147 34 ov (xs.flatMap kL)::F):=by
 obtain ⟨ov,h1⟩:=Sat.ex.1 h
 exact ⟨ov,Sat.star.1 h1⟩
theorem SV {ov:Value} (h:Sat w0 w (pt b (.cells #[ov] 91 (0,0))::aF 147 34 ov (xs.flatMap kL)::F)):Sat w0 w (qI b xs::F):=Sat.ex.2 ⟨ov,Sat.star.2 h⟩
theorem ahf:iH Tryz.prog 91=some (.slice none 0 0):=by kernel_rfl
set_option maxRecDepth 20000 in
theorem aeY (hl:Tab.Lists m kv) (hB:B≤13000000) (hkl:kv.length≤13000000) (hks:∀ q∈kv,q.1.length=32) (h:Sat w0 w (bW p m B::dG s r p st::F)) :
  Calls Tryz.prog 41 #[ptr s] w (aI fun v w'=>Sat w0 w' (aF 147 34 v (kv.flatMap kL)::bW p m B::dG s r p st::F)):=by
 have Hl:=uQ hl;have HB:=uQ hB;have qU:=uQ hkl;have dW:=uQ hks
 clear hl hB hkl hks
 refine Oa Tryz.func41 rfl ?_
 simp only [Tryz.ntmps41,List.size_toArray,List.length_cons,List.length_nil,Nat.reduceAdd,Nat.reduceSub,Array.replicate_succ,Array.replicate_zero,List.push_toArray,List.append_toArray,List.nil_append,List.cons_append]
 go_wp2_with (with_reducible apply dY)
 refine ⟨dS ahf h rfl ?_⟩
 intro b3 w3 h3
 have hok:=rO (h3.sb:Sat w0 w3 (dG s r p st::pt b3 (.cells #[.slice none 0 0] 91 (0,0))::bW p m B::F))
 have e1:w3.cell? ⟨s,1,none⟩=some (ptr p):=h3.cellP dM 1 rfl
 go_wp2_with fail
 refine hok.mono ?_
 rintro ee w33 ⟨v,rfl,rfl,rfl⟩
 clear hok
 go_wp2_with fail
 refine (XL h3).mono ?_
 rintro ee w4 ⟨v,rfl,bA,rfl,h4⟩
 obtain ⟨G,IL⟩:∃ G,dG s r p st::F=G:=⟨_,rfl⟩
 rw [IL]at h4
 have VY:=uQ IL
 clear IL e1
 go_wp2_with fail
 have h5:Sat w0 w4 (bW p m B::pt bA (.cells #[ptr p] 62 (0,0))::qI b3 (kv.take 0)::G):=by
  have h6:Sat w0 w4 (pt b3 (.cells #[.slice none 0 0] 91 (0,0))::bW p m B::pt bA (.cells #[ptr p] 62 (0,0))::G):=h4.sb
  exact (SV (xs:=[]) ((Sat.fM.2 h6).sb:Sat w0 w4 (pt b3 (.cells #[.slice none 0 0] 91 (0,0))::aF 147 34 (.slice none 0 0) []::bW p m B::pt bA (.cells #[ptr p] 62 (0,0))::G))).sb
 clear h h3 h4
 refine Vu (gf:=104) (lb:=#[ptr bA]) ah (fun args w=>by kernel_rfl) (XK HB.out Hl.out) ?_ (fun pre=>qI b3 (kv.take pre.length)::G) h5 ?_ ?_
 ·intro x hx
  obtain ⟨p,_,rfl⟩:=List.mem_map.1 hx
  rfl
 ·clear h5
  intro l pre x post U W hkv hS T hT
  obtain ⟨i,hi⟩:∃ i,i=pre.length:=⟨_,rfl⟩
  have hlt:i<kv.length:=by
   have:=congrArg List.length hkv
   rw [List.length_map,List.length_append,List.length_cons]at this
   omega
  obtain ⟨⟨k,y⟩,hy⟩:∃ p,kv[i]?=some p:=⟨_,List.getElem?_eq_getElem hlt⟩
  obtain rfl:x=oO (k,y):=by
   have e1:(kv.map oO)[i]?=some (oO (k,y)):=by rw [List.getElem?_map,hy];rfl
   rw [hkv,hi,List.getElem?_append_right (Nat.le_refl _),Nat.sub_self,List.getElem?_cons_zero]at e1
   exact Option.some.inj e1
  have BM:=dW.out _ (List.mem_of_getElem? hy)
  have htk:kv.take (i+1)=kv.take i++[(k,y)]:=by rw [List.take_add_one,hy,Option.toList_some]
  have hil:(pre++[oO (k,y)]).length=i+1:=by rw [List.length_append,hi];rfl
  have iM:=uQ htk;have jL:=uQ hil;have qj:=uQ (show k.length=32 from BM)
  have jX:=uQ (show ((kv.take i).flatMap kL).length≤2147483648 from by
   rw [jr (k:=34) fun q hq=>zo q (dW.out q (List.mem_of_mem_take hq)),List.length_take]
   have:=qU.out
   omega)
  have hS0:Sat w0 W (qI b3 (kv.take i)::(G++U)):=by rw [hi];exact hS
  clear hkv hS hi hlt hy BM htk hil
  simp [oO]at hT
  subst hT
  refine wpIn_seq_k fun K hK=>?_
  refine sS ah fun K2 hK2=>?_
  go_wp2_with (with_reducible apply dY)
  refine ⟨dS oz hS0 rfl ?_⟩
  intro b5 w5 h5
  go_wp2_with ((with_reducible refine bU ⟨?_⟩);refine eH (ay k).toArray h5 ah ah (by rw [List.size_toArray,aU,qj.out];rfl) bJ (by rw [List.size_toArray,aU,qj.out];kernel_rfl) (by rw [List.toList_toArray];exact D7 _) ?_;intro w6 h6)
  refine sS ah fun K3 hK3=>?_
  go_wp2_with (with_reducible apply dY)
  refine ⟨dS nH h6 rfl ?_⟩
  intro b6 w7 h7
  go_wp2_with ((with_reducible refine bU ⟨?_⟩);refine eH (aN y).toArray h7 ah ah ah bJ au ah ?_;intro w8 h8)
  refine ⟨pt b6 (.cells (aN y).toArray 60 (0,0))::pt b5 (.cells (ay k).toArray 30 (0,0))::qI b3 (kv.take i)::G,h8,?_⟩
  clear h8 h7 h6 h5 hS0
  intro U' w9 h9
  have h10:Sat w0 w9 (pt b6 (.cells (aN y).toArray 60 (0,0))::pt b5 (.cells (ay k).toArray 30 (0,0))::qI b3 (kv.take i)::(G++U')):=h9
  clear h9
  obtain ⟨ov,h11⟩:=SS (h10.sb:Sat w0 w9 (qI b3 (kv.take i)::pt b6 (.cells (aN y).toArray 60 (0,0))::pt b5 (.cells (ay k).toArray 30 (0,0))::(G++U')))
  clear h10
  obtain ⟨oa,on,oc,rfl,_,_⟩:=Sat.rd (h11.pick aP)
  refine wpIn_block (sS ah fun K6 hK6=>?_)
  go_wp2_with (first
   |((with_reducible refine bI ⟨?_⟩);first
    |refine fB h11 ah dM Tryz.underlying60 rfl au ?_
    |refine fB h11 ah iy Tryz.underlying30 rfl (by rw [List.size_toArray,aU,qj.out];kernel_rfl) ?_
    |refine gK h11 ah aH bH aj au ?_)
   |((with_reducible refine Nz ⟨?_⟩);refine Vk ah ah (fun w=>aen k qj.out y w) ?_)
   |((with_reducible refine kU ⟨?_⟩);refine lu (e:=147) (sz:=34) (dX:=48) (cs:=(kL (k,y)).toArray) au h11 ah rfl (by rw [List.size_toArray,zo _ qj.out]) bH ?_;intro bN wN hN)
   |(with_reducible apply jf))
  refine ⟨lq (cs:=(kL (k,y)).toArray) 147 34 48 au hN ah ah dM aH (by rw [List.size_toArray,zo _ qj.out]) bH (by rw [List.toList_toArray];exact Yn (k,y)) jX.out (by rw [List.size_toArray,zo _ qj.out];decide) bH rfl ?_⟩
  intro b' n' c' w12 h12
  clear h11 hN
  go_wp2_with (with_reducible apply bU)
  refine ⟨eX (cs':=#[.slice (some ⟨b',0,none⟩) n' c']) (h12.sb:Sat w0 w12 (pt b3 (.cells #[.slice oa on oc] 91 (0,0))::aF 147 34 (.slice (some ⟨b',0,none⟩) n' c') ((kv.take i).flatMap kL++kL (k,y))::(G++U'))) ah ah ah bJ bH au ah ?_⟩
  intro jH h13
  go_wp2_with fail
  refine ⟨trivial,?_⟩
  rw [jL.out,iM.out]
  have jE:=SV (xs:=kv.take i++[(k,y)]) (by rw [List.flatMap_append,List.flatMap_cons,List.flatMap_nil,List.append_nil];exact h13)
  exact jE
 ·intro D w8 h8
  have h9:Sat w0 w8 (bW p m B::pt bA (.cells #[ptr p] 62 (0,0))::qI b3 kv::(G++[pt D (.deferred (some []))])):=by
   have q:=h8
   rw [List.length_map,List.take_length]at q
   exact q
  have hA:Sat w0 w8 (pt D (.deferred (some []))::bW p m B::pt bA (.cells #[ptr p] 62 (0,0))::qI b3 kv::G):=
   Sat.zf (L:=bW p m B::pt bA (.cells #[ptr p] 62 (0,0))::qI b3 kv::G) (R:=[pt D (.deferred (some []))]) h9
  clear h5 h8 h9
  obtain ⟨ov,hB2⟩:=SS (hA.sb:Sat w0 w8 (qI b3 kv::pt D (.deferred (some []))::bW p m B::G))
  clear hA
  obtain ⟨oa,on,oc,rfl,_,_⟩:=Sat.rd (hB2.pick aP)
  go_wp2_with ((with_reducible refine bI ⟨?_⟩);refine gK hB2 ah aH bH aj au ?_)
  refine Zc rfl (hB2.sb:Sat w0 w8 (pt D (.deferred (some []))::aF 147 34 (.slice oa on oc) (kv.flatMap kL)::bW p m B::G)) (fun w=>ady (t:=2) ah _ _ w) ?_
  intro w9 h9
  exact ⟨_,rfl,by rw [VY.out];exact h9⟩
end
end Go.Proofs.YtlimfgdbfadohaaGreatDoor
namespace Go.VO
open Go.ak (Bs)
abbrev CD:=Bs×Go.Rep.dU
def GZ (l:List CD):Prop:=∀ j a b,l[j]?=some a→l[j+1]?=some b→a.1<b.1
def Xy (c:Go.Rep.dU):Prop:=1≤c.refs∧c.refs≤1073741824∧0≤c.size∧c.size≤16379
def All (l:List CD):Prop:=∀ d∈l,Xy d.2
def Is (l:List CD) (e:Int):Prop:=(e=0∧GZ l∧All l)∨(e=2∧GZ l∧¬ All l)∨(e=18∧¬ GZ l)
end Go.VO
namespace Go.Proofs.YtlimfgdbfadohaaGreatDoor
open Go Go.Sl Go.aB Go.MapKept Go.RowKit
section
variable {w0 w:World}{F:List aC}{lv:Value}
end
section
variable {w0 w:World}{F:List aC}{lv:Value}
theorem afB {s r t:Nat}{st:Bool} (h:Sat w0 w (dG s r t st::F)):Calls Tryz.prog 39 #[ptr s] w (aI fun v w'=>v=ptr r∧w=w'):=by
 have e0:w.cell? ⟨s,0,none⟩=some (.pointer (some ⟨r,0,none⟩)):=h.cellAt 0 _ rfl
 have hok:=rO h
 clear h
 go_enter Tryz.func39,Tryz.ntmps39
 go_wp2_with fail
 refine hok.mono ?_
 rintro ee w1 ⟨v,rfl,rfl,rfl⟩
 clear hok
 go_wp2_with fail
 go_ret
 exact ⟨_,rfl,rfl,rfl⟩
end
section
variable {w0 w:World}{F:List aC}{p m K r ps pn B:Nat}{L:Seg.Log}{M:aB}{seg:Int}{d:Bool}{k:ak.Bs}{mp:ak.Bs→Option Seg.bF}
set_option maxRecDepth 20000 in
theorem aei (k:ak.Bs) (hk:k.length=32) (w:World) :
  (Instr.build 137 #[(0,.int .i64 1),(1,.agg (ay k).toArray)]).run Tryz.prog w = .ok (.agg (dI ⟨1,k,[]⟩ (.slice none 0 0))) w:=by
 have hz:(dI ak.zeroE (.slice none 0 0)).size=34:=kV _ _ rfl
 have hks:(ay k).toArray.size=32:=by simp [ay,hk]
 have h:=run_build (P:=Tryz.prog) [(0,.int .i64 1),(1,.agg (ay k).toArray)] EZ yP (by
  intro p hp
  simp only [List.mem_cons,List.not_mem_nil,or_false]at hp
  have hzz:uP.cells.size=34:=hz
  rw [hzz]
  rcases hp with rfl|rfl
  ·exact ⟨0,rfl,by show 0+1≤34;omega⟩
  ·refine ⟨1,?_,?_⟩
   ·show some (1,32)=some (1,(ay k).toArray.size);rw [hks]
   ·show 1+(ay k).toArray.size≤34;rw [hks];omega) w
 refine h.trans ?_
 congr 2
 apply rH
 refine (ac9 _ hz _ _ (show (ay k).toArray.toList.length=32 by rw [List.toList_toArray,aU,hk])).trans ?_
 rfl
set_option maxRecDepth 20000 in
theorem ad3 (hB:B≤134217000) (hk:k.length=32) (pl:Seg.bF) (hm:mp k=some pl) (hL:L.Ok) (hM:M.Ok K) (oW:K+4≤1099511627776) (hH:Ro w0 F Half) (h0:(L.append M ⟨1,k,[]⟩).2.2=0) (h:Sat w0 w (dA r m seg p ps pn d::aZ pn mp B::aS p m L::aT m M::F)) :
  Calls Tryz.prog 67 #[ptr r,.agg (ay k).toArray] w (aI fun v w'=>v=errno 0∧Sat w0 w' (dA r m seg p ps pn true::aZ pn (Tab.del mp k) B::aS p m (L.append M ⟨1,k,[]⟩).1.1::aT m (L.append M ⟨1,k,[]⟩).1.2::F)):=by
 have Hk:=uQ hk;have dW:=uQ (show (ay k).length=32 by rw [aU,hk]);have HB:=uQ hB
 have HX:=uQ (fun (w':World) (R:List aC) (hw:Sat w0 w' (dA r m seg p ps pn d::aZ pn mp B::R))=>TV (Nat.le_trans hB aJ) hk hw)
 rw [hm,Option.isSome_some]at HX
 have hap:=uQ (fun (w':World) (R:List aC) (hh:Ro w0 R Half) (hw:Sat w0 w' (aS p m L::aT m M::R))=>Rk ⟨1,k,[]⟩ hk none 0 (fun w _=>Ky 1 0 w) hh (Nat.zero_le _) hL hM oW hw)
 generalize L.append M ⟨1,k,[]⟩=q at *
 obtain ⟨⟨L2,M2⟩,pc,e2⟩:=q
 dsimp only at h0 hap ⊢
 have HH:=uQ hH
 subst h0
 clear hk hB hm hL hM oW hH
 go_enter Tryz.func67,Tryz.ntmps67
 go_wp2_with (with_reducible apply fH)
 refine ⟨fO h aj aj ?_⟩
 intro b3 w3 h3
 have h4:Sat w0 w3 (dA r m seg p ps pn d::aZ pn mp B::pt b3 (.cells (ay k).toArray 30 (0,0))::aS p m L::aT m M::F):=h3.sb
 clear h h3
 go_wp2_with fail
 refine (yH h4).mono ?_
 rintro ee w5 ⟨v,rfl,rfl,rfl⟩
 go_wp2_with ((with_reducible refine bI ⟨?_⟩);refine fB h4 ah dM Tryz.underlying30 rfl (by rw [List.size_toArray,dW.out];kernel_rfl) ?_)
 refine (HX.out _ _ h4).mono ?_
 rintro ee w6 ⟨v,rfl,rfl,h6⟩
 clear h4
 go_wp2_with fail
 have h5:Sat w0 _ (pt b3 (.cells (ay k).toArray 30 (0,0))::dA r m seg p ps pn d::aZ pn mp B::aS p m L::aT m M::F):=(h6.drew).sb
 clear h6
 refine dh [6,7,8,9,11,12] (fun w'=>w'.cell? ⟨r,2,none⟩=some (.pointer (some ⟨p,0,none⟩))∧w'.rangeAt b3 0 (ay k)) au ?_
 have lS:∀ (w':World) (R:List aC),Sat w0 w' (pt b3 (.cells (ay k).toArray 30 (0,0))::dA r m seg p ps pn d::R)→w'.cell? ⟨r,2,none⟩=some (.pointer (some ⟨p,0,none⟩))∧w'.rangeAt b3 0 (ay k):=fun w' R hw=>⟨hw.cellP aP 2 rfl,fun j z hj=>by rw [Nat.zero_add];exact hw.cellP aH j (by rw [List.getElem?_toArray];exact hj)⟩
 have lY:=uQ lS
 have hG:=lS _ _ h5
 clear lS
 refine rP 0 ?_ (y:=aG)
 refine rP 1 ?_ (y:=dL)
 refine rP 2 ?_ (y:=cO)
 refine rt 3 (h:=?_)
 refine dK 4 aj au bC (gu (b:=b3) (o:=0) (ay k) ah Tryz.underlying30 rfl (by rw [dW.out];kernel_rfl) (fun w hw=>hw.2)) aQ gQ ?_
 clear hG
 refine rP 5 ?_ (y:=(LP aj aj (fun w=>aei k Hk.out w)))
 refine rM 6 10 aj aj au (fun K hK=>?_) (fun K hK=>?_)
 ·(refine eU au aj aj ?_)
  refine (hap.out _ _ (Ro.os HH.out) (h5.sb:Sat w0 _ (aS p m L::aT m M::pt b3 (.cells (ay k).toArray 30 (0,0))::dA r m seg p ps pn d::aZ pn mp B::F))).mono ?_
  rintro ee w6 ⟨v,rfl,rfl,h6⟩
  refine hK _ _ (.inl rfl) ?_
  clear hK hap h5
  refine rP 7 ?_ (y:=aG)
  refine rP 8 ?_ (y:=(fC aj bT))
  refine rP 9 ?_ (y:=(fC aj bT))
  refine bG 10 aj au (fun K hK=>?_)
  refine kP (qP) h6 rfl ?_
  intro b7 w7 h7
  refine hK _ _ (.inr (.inl (lY.out _ _ (h7.sb:Sat w0 w7 (pt b3 (.cells (ay k).toArray 30 (0,0))::dA r m seg p ps pn d::aZ pn mp B::pt b7 (.cells (aW Seg.bF.zero).toArray 107 (0,0))::aS p m L2::aT m M2::F))))) ?_
  clear hK h6
  have h8:Sat w0 w7 (pt b7 (.cells (aW Seg.bF.zero).toArray 107 (0,0))::pt b3 (.cells (ay k).toArray 30 (0,0))::dA r m seg p ps pn d::aZ pn mp B::aS p m L2::aT m M2::F):=h7.sb
  clear h7
  refine bG 11 aj au (fun K hK=>?_)
  refine jD (cs':=(aW pc).toArray) h8 aj aj ah bJ bH au ah ?_
  intro w9 h9
  refine hK _ _ (.inl rfl) ?_
  clear hK h8
  refine rP 12 ?_ (y:=dN)
  refine cu au ?_
  go_wp2_with fail
  have h10:Sat w0 _ (pt b3 (.cells (ay k).toArray 30 (0,0))::dA r m seg p ps pn d::aZ pn mp B::pt b7 (.cells (aW pc).toArray 107 (0,0))::aS p m L2::aT m M2::F):=(h9.drew).sb
  clear h9 lY
  refine dh [5] (fun w'=>w'.cell? ⟨r,4,none⟩=some (.pointer (some ⟨pn,0,none⟩))∧w'.rangeAt b3 0 (ay k)) au ?_
  have hG:World.cell? _ ⟨r,4,none⟩=some (.pointer (some ⟨pn,0,none⟩))∧World.rangeAt _ b3 0 (ay k):=⟨h10.cellP aP 4 rfl,fun j z hj=>by rw [Nat.zero_add];exact h10.cellP aH j (by rw [List.getElem?_toArray];exact hj)⟩
  refine rP 0 ?_ (y:=aG)
  refine rP 1 ?_ (y:=dL)
  refine rP 2 ?_ (y:=cO)
  refine rt 3 (h:=?_)
  refine dK 4 aj au bC (gu (b:=b3) (o:=0) (ay k) ah Tryz.underlying30 rfl (by rw [dW.out];kernel_rfl) (fun w hw=>hw.2)) aQ gQ ?_
  clear hG
  refine bG 5 aj au (fun K hK=>?_)
  (refine eU au aj aj ?_)
  refine (OA HB.out Hk.out (h10.sb:Sat w0 _ (aZ pn mp B::pt b3 (.cells (ay k).toArray 30 (0,0))::dA r m seg p ps pn d::pt b7 (.cells (aW pc).toArray 107 (0,0))::aS p m L2::aT m M2::F))).mono ?_
  rintro ee fU ⟨v,rfl,rfl,h11⟩
  refine hK _ _ (.inl rfl) ?_
  clear hK h10
  refine cu au ?_
  go_wp2_with (with_reducible apply bU)
  refine ⟨eX (cs':=#[ptr m,.int .i64 seg,ptr p,ptr ps,ptr pn,.bool true]) (h11.sb:Sat w0 fU (dA r m seg p ps pn d::aZ pn (Tab.del mp k) B::pt b3 (.cells (ay k).toArray 30 (0,0))::pt b7 (.cells (aW pc).toArray 107 (0,0))::aS p m L2::aT m M2::F)) ah ah ah bJ bH au ah ?_⟩
  intro w12 h12
  go_wp2_with fail
  go_ret
  exact ⟨_,rfl,rfl,h12.sb⟩
 ·refine kP (qP) h5 rfl ?_
  intro b7 w6 h6
  refine hK _ _ (.inr (.inl (lY.out _ _ (h6.sb:Sat w0 w6 (pt b3 (.cells (ay k).toArray 30 (0,0))::dA r m seg p ps pn d::pt b7 (.cells (aW Seg.bF.zero).toArray 107 (0,0))::aZ pn mp B::aS p m L::aT m M::F))))) ?_
  clear hK h5
  refine bG 6 aj au (fun K hK=>?_)
  (refine eU au aj aj ?_)
  refine (hap.out _ _ (Ro.os HH.out) (h6.sb:Sat w0 _ (aS p m L::aT m M::pt b7 (.cells (aW Seg.bF.zero).toArray 107 (0,0))::pt b3 (.cells (ay k).toArray 30 (0,0))::dA r m seg p ps pn d::aZ pn mp B::F))).mono ?_
  rintro ee w7 ⟨v,rfl,rfl,h7⟩
  refine hK _ _ (.inl rfl) ?_
  clear hK hap h6
  refine rP 7 ?_ (y:=aG)
  refine rP 8 ?_ (y:=(fC aj bT))
  refine rP 9 ?_ (y:=(fC aj bT))
  have h8:Sat w0 w7 (pt b7 (.cells (aW Seg.bF.zero).toArray 107 (0,0))::pt b3 (.cells (ay k).toArray 30 (0,0))::dA r m seg p ps pn d::aZ pn mp B::aS p m L2::aT m M2::F):=h7.sb
  clear h7
  refine bG 11 aj au (fun K hK=>?_)
  refine jD (cs':=(aW pc).toArray) h8 aj aj ah bJ bH au ah ?_
  intro w9 h9
  refine hK _ _ (.inl rfl) ?_
  clear hK h8
  refine rP 12 ?_ (y:=dN)
  refine cu au ?_
  go_wp2_with fail
  have h10:Sat w0 _ (pt b3 (.cells (ay k).toArray 30 (0,0))::dA r m seg p ps pn d::aZ pn mp B::pt b7 (.cells (aW pc).toArray 107 (0,0))::aS p m L2::aT m M2::F):=(h9.drew).sb
  clear h9 lY
  refine dh [5] (fun w'=>w'.cell? ⟨r,4,none⟩=some (.pointer (some ⟨pn,0,none⟩))∧w'.rangeAt b3 0 (ay k)) au ?_
  have hG:World.cell? _ ⟨r,4,none⟩=some (.pointer (some ⟨pn,0,none⟩))∧World.rangeAt _ b3 0 (ay k):=⟨h10.cellP aP 4 rfl,fun j z hj=>by rw [Nat.zero_add];exact h10.cellP aH j (by rw [List.getElem?_toArray];exact hj)⟩
  refine rP 0 ?_ (y:=aG)
  refine rP 1 ?_ (y:=dL)
  refine rP 2 ?_ (y:=cO)
  refine rt 3 (h:=?_)
  refine dK 4 aj au bC (gu (b:=b3) (o:=0) (ay k) ah Tryz.underlying30 rfl (by rw [dW.out];kernel_rfl) (fun w hw=>hw.2)) aQ gQ ?_
  clear hG
  refine bG 5 aj au (fun K hK=>?_)
  (refine eU au aj aj ?_)
  refine (OA HB.out Hk.out (h10.sb:Sat w0 _ (aZ pn mp B::pt b3 (.cells (ay k).toArray 30 (0,0))::dA r m seg p ps pn d::pt b7 (.cells (aW pc).toArray 107 (0,0))::aS p m L2::aT m M2::F))).mono ?_
  rintro ee fU ⟨v,rfl,rfl,h11⟩
  refine hK _ _ (.inl rfl) ?_
  clear hK h10
  refine cu au ?_
  go_wp2_with (with_reducible apply bU)
  refine ⟨eX (cs':=#[ptr m,.int .i64 seg,ptr p,ptr ps,ptr pn,.bool true]) (h11.sb:Sat w0 fU (dA r m seg p ps pn d::aZ pn (Tab.del mp k) B::pt b3 (.cells (ay k).toArray 30 (0,0))::pt b7 (.cells (aW pc).toArray 107 (0,0))::aS p m L2::aT m M2::F)) ah ah ah bJ bH au ah ?_⟩
  intro w12 h12
  go_wp2_with fail
  go_ret
  exact ⟨_,rfl,rfl,h12.sb⟩
end
section
variable {w0 w:World}{F:List aC}{s m n c:Nat}{T:Seg.TT}{k b:ak.Bs}{q:ak.Bs×Nat}
theorem UK (hn:n≤1000) (hT:T k=some q) (hH:Ro w0 F Half) (jl:Ro w0 F kE) (h:gX w0 s m n c T F w) :
  Calls Tryz.prog 11 #[ptr s,.agg (ay k).toArray] w (aI fun v w'=>∃ (a:Option Addr) (l cp:Nat),v = .tuple #[.slice a l cp,errno 0]∧gX w0 s m n c T (aK (.slice a l cp) q.1::F) w'):=by
 obtain ⟨r,t,p,ps,pn,B,BR,seg,d,L,M,C,mR,hf,hB,gY,hS⟩:=h
 obtain ⟨u,cc⟩:=q
 obtain ⟨pl,g1,g2,g3,g4⟩:=hf.got hT
 obtain ⟨s1,s2,s3⟩:=hf.sum _ _ hT
 have s2:u.length≤150:=s2
 have hkl:k.length=32:=by rw [s1];exact lg u
 have I4:=P5 (w0:=w0) (F:=bW t mR BR::F) (r:=r) (m:=m) (p:=p) (ps:=ps) (pn:=pn) (B:=B) (seg:=seg) (d:=d) (data:=Lz.iV u) oQ hkl g1 (Ro.os hH) hf.rp.hg.keeps.log hf.rp.hg.keeps.calm.ok g3 g4 (by have:=Lz.FW u;omega) g2
 have hsg:=Ut (s:=s) (t:=t) s1 oQ (Ro.os jl) I4
 refine (hsg w _ wV (hS.sb)).mono ?_
 rintro e w' ⟨v,rfl,a,l,cp,rfl,h6⟩
 exact ⟨_,rfl,a,l,cp,rfl,r,t,p,ps,pn,B,BR,seg,d,L,M,C,mR,hf,hB,gY,h6.sb⟩
theorem afI (hn:n≤1000) (hk:k.length=32) (hT:T k=none) (h:gX w0 s m n c T F w) :
  Calls Tryz.prog 11 #[ptr s,.agg (ay k).toArray] w (aI fun v w'=>v = .tuple #[.slice none 0 0,errno 9]∧gX w0 s m n c T F w'):=by
 obtain ⟨r,t,p,ps,pn,B,BR,seg,d,L,M,C,mR,hf,hB,gY,hS⟩:=h
 have hno:Rep.jc (Rep.iD 0 C) k=none:=by
  have:=hf.has k
  rw [hT]at this
  exact Option.not_isSome_iff_eq_none.1 (by rw [this];simp)
 have hge:LY w0 (bW t mR BR::F) (dA r m seg p ps pn d) (aZ pn (Rep.jc (Rep.iD 0 C)) B) (aS p m L) (aT m M) r k 9:=fun w' R hR hw=>ad4 oQ hk hno hw
 have hsg:=ae9 (s:=s) (t:=t) aJ hk hge
 refine (hsg w _ wV (hS.sb)).mono ?_
 rintro e w' ⟨v,rfl,rfl,h6⟩
 exact ⟨_,rfl,rfl,r,t,p,ps,pn,B,BR,seg,d,L,M,C,mR,hf,hB,gY,h6.sb⟩
theorem afJ (hn:n<300) (hc:c<1000) (hk:k.length=32) (hH:Ro w0 F Half) (h:gX w0 s m n c T F w) :
  Calls Tryz.prog 38 #[ptr s,.agg (ay k).toArray] w (aI fun v w'=>v=errno (if (T k).isSome=true then 0 else 9)∧gX w0 s m (n+1) (c+1) (T.rel k) F w'):=by
 obtain ⟨r,t,p,ps,pn,B,BR,seg,d,L,M,C,mR,hf,hB,gY,hS⟩:=h
 have hcn:=hf.cnt k
 cases hT:T k with
 |none=>
  rw [hT]at hcn
  refine (afA oQ hk hcn hS).mono ?_
  rintro e w' ⟨v,rfl,rfl,h2⟩
  have e1:T.rel k=T:=by unfold Seg.TT.rel;rw [hT]
  rw [e1]
  exact ⟨_,rfl,rfl,r,t,p,ps,pn,B,BR,seg,d,L,M,C,mR,hf.mono (Nat.le_succ _) (Nat.le_succ _),by omega,by omega,h2⟩
 |some q=>
  obtain ⟨u,cc⟩:=q
  rw [hT]at hcn
  obtain ⟨s1,s2,s3⟩:=hf.sum _ _ hT
  have s3:cc≤c:=s3
  by_cases h1:1<cc
  ·have e1:T.rel k=Tab.put T k (u,cc - 1):=by unfold Seg.TT.rel;rw [hT];exact if_pos h1
   rw [e1]
   refine (afz oQ hk hcn (by show (1:Int)<(cc:Int);omega) (by show (cc:Int)<1000000;omega) hS).mono ?_
   rintro e w' ⟨v,rfl,rfl,h2⟩
   exact ⟨_,rfl,rfl,r,t,p,ps,pn,B,BR+1,seg,d,L,M,C,_,(hf.less hT h1).mono (Nat.le_succ _) (Nat.le_succ _),by omega,by omega,h2⟩
  ·have e1:T.rel k=Tab.del T k:=by unfold Seg.TT.rel;rw [hT];exact if_neg h1
   rw [e1]
   obtain ⟨pl,g1,_⟩:=hf.got hT
   obtain ⟨a1,C',a2,a3⟩:=hf.gone oQ hT
   have hd:LX w0 F (dA r m seg p ps pn d) (aZ pn (Rep.jc (Rep.iD 0 C)) B) (aS p m L) (aT m M) (dA r m seg p ps pn true) (aZ pn (Tab.del (Rep.jc (Rep.iD 0 C)) k) B) (aS p m (L.append M ⟨1,k,[]⟩).1.1) (aT m (L.append M ⟨1,k,[]⟩).1.2) r k:=fun w' R hR hw=>
    ad3 oQ hk pl g1 hf.rp.hg.keeps.log hf.rp.hg.keeps.calm.ok oQ (Ro.of_sub hH hR) a1 hw
   refine (afy oQ hk hcn (by show (cc:Int)≤1;omega) hd hS).mono ?_
   rintro e w' ⟨v,rfl,rfl,h2⟩
   exact ⟨_,rfl,rfl,r,t,p,ps,pn,B,BR,seg,true,_,_,C',_,a2.mono (Nat.le_refl _) (Nat.le_succ _),by omega,by omega,by rw [a3];exact h2⟩
theorem afK {kv:List (ak.Bs×(ak.Bs×Nat))} (hl:Tab.Lists T kv) (h:gX w0 s m n c T F w) :
  ∃ r,Calls Tryz.prog 39 #[ptr s] w (aI fun v w'=>v=ptr r∧w=w')∧Calls Tryz.prog 40 #[ptr r] w (aI fun v w'=>v = .int .i64 (kv.length:Nat)∧w=w'):=by
 obtain ⟨r,t,p,ps,pn,B,BR,seg,d,L,M,C,mR,hf,hB,gY,hS⟩:=h
 refine ⟨r,afB hS,?_⟩
 refine (adP (hS.sb:Sat w0 w (dA r m seg p ps pn d::aZ pn (Rep.jc (Rep.iD 0 C)) B::F))).mono ?_
 rintro e w' ⟨v,rfl,x,⟨h1,h2⟩,rfl,rfl⟩
 obtain ⟨kv',k1,k2,_⟩:=Seg.RD hl hf.has
 exact ⟨_,rfl,by rw [Tab.abr h1 h2 k1,k2],rfl⟩
theorem afF {kv:List (ak.Bs×(ak.Bs×Nat))} (hc:c≤1000) (hl:Tab.Lists T kv) (hkv:kv.length≤1000) (h:gX w0 s m n c T F w) :
  Calls Tryz.prog 41 #[ptr s] w (aI fun v w'=>∃ (a:Option Addr) (cp:Nat),v = .slice a kv.length cp∧gX w0 s m n c T F w'):=by
 obtain ⟨r,t,p,ps,pn,B,BR,seg,d,L,M,C,mR,hf,hB,gY,hS⟩:=h
 obtain ⟨kv',k1,k2,k3⟩:=Seg.RD (m':=mR) hl fun k=>by rw [hf.cnt];cases T k <;> rfl
 have hks:∀ q∈kv',q.1.length=32:=fun q hq=>by
  have hm:q.1∈kv.map (·.1):=by rw [← k3];exact List.mem_map.2 ⟨q,hq,rfl⟩
  obtain ⟨y,hy,e⟩:=List.mem_map.1 hm
  have:=(hf.sum _ _ ((hl.mem y.1 y.2).1 hy)).1
  rw [← e,this];exact lg _
 refine (aeY k1 oQ oQ hks (hS.sb:Sat w0 w (bW t mR BR::dG s r t false::dA r m seg p ps pn d::aZ pn (Rep.jc (Rep.iD 0 C)) B::aS p m L::aT m M::F))).mono ?_
 rintro e w' ⟨v,rfl,h2⟩
 obtain ⟨la,lc,rfl⟩:=jm (fun q hq=>zo q (hks q hq)) (Sat.rd h2) aJ
 rw [k2]
 exact ⟨_,rfl,la,lc,rfl,r,t,p,ps,pn,B,BR,seg,d,L,M,C,mR,hf,hB,gY,h2.sb⟩
end
def qp:ak.Bs:=[97,98,99]
theorem XF:aA.sum qp≠ak.zero32:=by decide +kernel
def y8:Array Value:=#[.int .u8 97,.int .u8 98,.int .u8 99]
theorem aes (w:World):(Instr.field 60 (.agg (aN ⟨1,3⟩).toArray) 0).run Tryz.prog w = .ok (.int .i64 1) w:=by kernel_rfl
theorem aec (w:World):(Instr.buildSlice 27 3 #[(0,.int .u8 97),(1,.int .u8 98),(2,.int .u8 99)]).run Tryz.prog w = .ok (.slice (some ⟨w.heap.size,0,none⟩) 3 3) (w.alloc (.cells y8 5)):=by kernel_rfl
section
variable {w0 w:World}{L:List aC}{ops:Array Oper}{rest:List Oper}{a:Act}{Q:Exit→Act→World→Prop}{dst:Option Tmp}{t ty:TypeId}{pos:String}{after:Array Edge}
theorem run_mark {b n c T:Nat}{cs:Array Value} (h:Sat w0 w (pt b (.cells cs T (0,0))::L)):(convert 27 27 (.slice (some ⟨b,0,none⟩) n c)).run Tryz.prog w = .ok (.slice (some ⟨b,0,none⟩) n c) (w.freeze ⟨b,cs.size,none⟩ 1):=by
 have hsh:w.shape? b=some (T,cs.size):=by unfold World.shape?;rw [h.at]
 simp [convert,run_underlying Tryz.underlying27,run_underlying Tryz.underlying5,markStringish,hsh]
theorem aeU {b T:Nat}{cs:Array Value} (h:Sat w0 w (pt b (.cells cs T (0,0))::L)):Sat w0 (w.freeze ⟨b,cs.size,none⟩ 1) (pt b (.cells cs T (cs.size,cs.size+1))::L):=by
 have hb:=h.at
 refine h.turn (by unfold World.freeze;rw [if_neg aJ]) (by unfold World.freeze;rw [if_neg aJ]) (by unfold World.freeze;rw [if_neg aJ]) (by unfold World.freeze;rw [if_neg aJ];simp) ?_ (fun i hi _=>?_)
 ·unfold World.freeze
  rw [if_neg aJ]
  simp only [Array.getElem?_modify,if_true,hb]
  simp
 ·unfold World.freeze
  rw [if_neg aJ]
  simp only [Array.getElem?_modify]
  rw [if_neg (Ne.symm hi)]
theorem RS.SI {v:Value}{l:ak.Bs}{G:List aC} (h:Sat w0 w (AU v l::L)):RS w0 (AU v l::G) v l:=by
 refine ⟨fun w hw=>XV hw,?_⟩
 rcases Ny h with h|⟨b,n,cap,cs,m,rfl,hl,hn,hc,hcm,htk,hmk,hp⟩
 ·obtain ⟨a,n,c,e,h1,h2,h3⟩:=iY h
  exact ⟨a,n,c,e,h1,h2⟩
 ·exact ⟨_,n,cap,rfl,hn,hcm⟩
theorem Vt {K:Act→World→Prop}{g:Option (Nat×Bool)}{b:Nat}{x:Operand} (hx:a.eval x = .slice (some ⟨b,0,none⟩) 3 3) (hs:Sat w0 w (pt b (.cells y8 5 (0,0))::L)) (hK:∀ w',Sat w0 w' (AU (.slice (some ⟨b,0,none⟩) 3 3) qp::L)→K (a.put dst (.slice (some ⟨b,0,none⟩) 3 3)) w') :
  Oper.wp Tryz.prog ⟨dst,.convert 27 27 x,t,pos,after,g⟩ a w K Q:=by
 unfold Oper.wp execOp
 simp only [hx,Sem.run_bind,run_mark hs,Result.andThen_ok,Sem.run_pure]
 exact hK _ (XU (aeU hs) ah (Nat.le_refl _) aJ aJ ah (Nat.le_refl _))
theorem XY {P:Program}{t1 t2:TypeId}{x:Operand} (h:Stop (wpList P ops Q (⟨dst,.convert t1 t2 x,t,pos,after,none⟩::rest) a w)):wpList P ops Q (⟨dst,.convert t1 t2 x,t,pos,after,none⟩::rest) a w:=h.out
set_option maxRecDepth 20000 in
theorem agP {b:Nat}{x:Operand} (hx:a.eval x = .slice (some ⟨b,0,none⟩) 3 3) (hs:Sat w0 w (pt b (.cells y8 5 (0,0))::L)) (hK:∀ w',Sat w0 w' (AU (.slice (some ⟨b,0,none⟩) 3 3) qp::L)→wpList Tryz.prog ops Q rest (a.put dst (.slice (some ⟨b,0,none⟩) 3 3)) w') :
  wpList Tryz.prog ops Q (⟨dst,.convert 27 27 x,t,pos,after,none⟩::rest) a w:=
 wpList_plain rfl fun _ hK'=>Vt hx hs fun w' h=>hK' _ _ (hK w' h)
theorem X5 {P:Program}{n:Nat}{xs:Array (Nat×Operand)} (h:Stop (wpList P ops Q (⟨dst,.buildSlice ty n xs,t,pos,after,none⟩::rest) a w)):wpList P ops Q (⟨dst,.buildSlice ty n xs,t,pos,after,none⟩::rest) a w:=h.out
theorem LM {P:Program}{x:Operand}{v vx:Value}{fl:Nat}{g:Option (Nat×Bool)} (hw:Region.wanted ⟨dst,.field ty x fl,t,pos,after,g⟩ (yielded ops a.tmps)=true) (hx:a.eval x=vx) (hr:∀ w,(Instr.field ty vx fl).run P w = .ok v w):Yields P ops ⟨dst,.field ty x fl,t,pos,after,g⟩ v a:=
 .inl ⟨hw,fun w=>by simp only [execOp,hx,Sem.run_bind,hr,Result.andThen_ok,Sem.run_pure]⟩
theorem Vs {K:Act→World→Prop}{g:Option (Nat×Bool)} (hs:Sat w0 w L) (hK:∀ b w',Sat w0 w' (pt b (.cells y8 5 (0,0))::L)→K (a.put dst (.slice (some ⟨b,0,none⟩) 3 3)) w') :
  Oper.wp Tryz.prog ⟨dst,.buildSlice 27 3 #[(0,.const (.int .u8 97)),(1,.const (.int .u8 98)),(2,.const (.int .u8 99))],t,pos,after,g⟩ a w K Q:=by
 have hS:=hs.alloc (.cells y8 5)
 unfold Oper.wp execOp
 simp only [List.map_toArray,List.map_cons,List.map_nil,Sem.run_bind]
 have:=aec w
 rw [show (Instr.buildSlice 27 3 #[(0,a.eval (.const (.int .u8 97))),(1,a.eval (.const (.int .u8 98))),(2,a.eval (.const (.int .u8 99)))]).run Tryz.prog w=_ from this]
 simp only [Result.andThen_ok,Sem.run_pure]
 exact hK _ _ hS
set_option maxRecDepth 20000 in
theorem agL (hs:Sat w0 w L) (hK:∀ b w',Sat w0 w' (pt b (.cells y8 5 (0,0))::L)→wpList Tryz.prog ops Q rest (a.put dst (.slice (some ⟨b,0,none⟩) 3 3)) w') :
  wpList Tryz.prog ops Q (⟨dst,.buildSlice 27 3 #[(0,.const (.int .u8 97)),(1,.const (.int .u8 98)),(2,.const (.int .u8 99))],t,pos,after,none⟩::rest) a w:=
 wpList_plain rfl fun _ hK'=>Vs hs fun b w' h=>hK' _ _ (hK b w' h)
end
section
variable {w0 w:World}{F:List aC}{s m n c:Nat}{T:Seg.TT}{k:ak.Bs}
theorem UL (z:Int) (hH:Ro w0 F Half) (h:Sat w0 w F):Calls Tryz.prog 5 #[.int .i64 z] w (aI fun v w'=>∃ s m,v = .tuple #[ptr s,ptr m,.bool true]∧gX w0 s m 0 0 (fun _=>none) F w'):=by
 refine (acH z hH h).mono ?_
 rintro e w' ⟨v,rfl,s,t,r,m,p,ps,pi,pn,uv,limit,M,rfl,_,_,_,rfl,hR,hS⟩
 have e:(fun _=>none:ak.Bs→Option Seg.bF)=Rep.jc (Rep.iD 0 []):=funext fun k=>rfl
 have hS:Sat w0 w' (dG s r t false::bW t (fun _=>none) 0::dA r m limit p ps pn false::aZ pn (fun _=>none) 0::aS p m ⟨limit,[],false,0⟩::aT m (aB.new 1048576)::F):=hS.sb
 rw [e]at hS
 exact ⟨_,rfl,s,m,rfl,r,t,p,ps,pn,0,0,limit,false,_,_,[],fun _=>none,⟨hR,fun k=>rfl,fun k=>rfl,fun k p hp=>by cases hp⟩,Nat.le_refl _,Nat.le_refl _,hS⟩
theorem Lc (hc:c≤1000) (hk:k.length=32) (h:gX w0 s m n c T F w):Calls Tryz.prog 34 #[ptr s,.agg (ay k).toArray] w (aI fun v w'=>v = .agg (aN ⟨(((T k).map (·.2)).getD 0:Nat),(((T k).map (·.1.length)).getD 0:Nat)⟩).toArray∧gX w0 s m n c T F w'):=by
 obtain ⟨r,t,p,ps,pn,B,BR,seg,d,L,M,C,mR,hf,hB,gY,hS⟩:=h
 have hx:=hf.Og k
 refine (aeX (k:=k) oQ hk hS).mono ?_
 rintro e w' ⟨v,rfl,rfl,h2⟩
 rw [hx]
 exact ⟨_,rfl,rfl,r,t,p,ps,pn,B,BR,seg,d,L,M,C,mR,hf,hB,gY,h2⟩
set_option maxRecDepth 20000 in
theorem RG (hH:Ro w0 F Half) (jl:Ro w0 F kE) (h:Sat w0 w F) :
  Calls Tryz.prog 13 #[] w (aI fun v w'=>v = .bool true∧Sat w0 w' F):=by
 have hop:=UL 500 hH h
 have HH:=uQ hH;have lZ:=uQ jl
 clear h hH jl
 go_enter Tryz.func13,Tryz.ntmps13
 go_wp2_with fail
 refine hop.mono ?_
 rintro ee w1 ⟨v,rfl,s,m,rfl,hst⟩
 clear hop
 obtain ⟨G,h1,IQ,hG1,hG2⟩:=hst.push
 go_wp2_with (with_reducible apply X5)
 refine ⟨agL h1 ?_⟩
 intro b1 w2 h2
 clear h1
 go_wp2_with (with_reducible apply XY)
 refine ⟨agP ah h2 ?_⟩
 intro w3 h3
 clear h2
 have hsum:=XF
 have hpt:=UM (b:=qp) aJ aJ aJ (RS.SI h3) (Ro.of_sub HH.out UN) (Ro.of_sub lZ.out UN) (hG2 _ _ h3)
 have hkl:=lg qp
 have qX:=uQ (fun (w':World) (R:List aC) (bv:Value) (hs:RS w0 R bv qp) (hk:Ro w0 R kE) (hw:Sat w0 w' R)=>C9 aJ hs hk hw)
 have IV:Seg.TT.put (fun _=>none) qp (aA.sum qp)=some (qp,1):=Seg.ac7 _ _
 have IV:=uQ IV
 generalize Seg.TT.put (fun _=>none) qp=T2 at *
 generalize aA.sum qp=k at *
 have dW:=uQ (show (ay k).length=32 by rw [aU,hkl])
 have dw:=uQ (show (ay k).toArray.size=32 by rw [List.size_toArray,aU,hkl])
 have jA:=uQ (show (ay k).toArray.toList.all (·.oneCell')=true by rw [List.all_eq_true];exact jU _)
 have nM:∀ x y w,((do eqGuard .eql 30 x y (.agg (ay k).toArray) (.agg (ay k).toArray);binOp .eql 30 (.agg (ay k).toArray) (.agg (ay k).toArray)):Sem Value).run Tryz.prog w = .ok (.bool true) w:=fun x y w=>by rw [Zh x y _ _ hkl hkl,decide_eq_true rfl]
 have qU:=uQ hkl;have qW:=uQ hsum
 clear hkl hsum h3 hst hG1 hG2 IQ
 go_wp2_with fail
 refine hpt.mono ?_
 rintro ee w4 ⟨v,rfl,⟨rfl,_,_,hs4⟩|⟨rfl,hs4,hc⟩⟩
 rotate_left
 focus
  exfalso
  rcases hc with hc|⟨u,cc,hc,_⟩
  ·exact qW.out hc
  ·cases hc
 clear hpt
 obtain ⟨G,h4,IQ,hG1,hG2⟩:=hs4.push
 go_wp2_with (with_reducible apply dY)
 refine ⟨dS oz h4 rfl ?_⟩
 intro b4 w5 h5
 clear h4
 go_wp2_with (with_reducible apply bU)
 refine ⟨eH (ay k).toArray h5 ah ah (dw.out.trans ah) bJ (by rw [dw.out];kernel_rfl) jA.out ?_⟩
 intro w6 h6
 clear h5
 go_wp2_with fail
 have h7:=h6.drew
 have hG:World.rangeAt _ b4 0 (ay k):=fun j v hj=>h7.cellP aH (0+j) (by simpa using hj)
 clear h6
 refine dh [12,13,14,15,16] (fun w'=>w'.rangeAt b4 0 (ay k)) au ?_
 refine rP 0 ?_ (y:=aG)
 refine rP 1 ?_ (y:=dB)
 refine rP 2 ?_ (y:=aG)
 refine dK 3 aj au bC (FN (b:=b4) (o:=0) (ay k) ah ah Tryz.underlying30 rfl (by rw [dW.out];kernel_rfl) (fun w hw=>hw)) aQ gQ ?_
 clear hG
 refine bG 4 aj au (fun K hK=>?_)
 refine OQ ah (Vs h7 fun b5 w8 h8=>?_)
 refine hK _ _ (.inr (.inl (fun j v hj=>h8.cellP aP (0+j) (by simpa using hj)))) ?_
 clear hK h7
 refine bG 5 aj au (fun K hK=>?_)
 refine OQ ah (Vt ah h8 fun w9 h9=>?_)
 refine hK _ _ (.inr (.inl (fun j v hj=>h9.cellP aP (0+j) (by simpa using hj)))) ?_
 clear hK h8
 have hro:Ro w0 (AU (.slice (some ⟨b5,0,none⟩) 3 3) qp::pt b4 (.cells (ay k).toArray 30 (0,0))::G) kE:=fun w' hw=>lZ.out w' (hw.drop.drop.sub IQ).drop
 refine bG 6 aj au (fun K hK=>?_)
 refine zx [.slice (some ⟨b5,0,none⟩) 3 3] ah au ah ?_
 refine (qX.out _ _ _ (RS.SI h9) hro h9).mono ?_
 rintro ee w10 ⟨v,rfl,rfl,h10⟩
 have hG:World.rangeAt _ b4 0 (ay k):=fun j v hj=>h10.cellP aP (0+j) (by simpa using hj)
 refine hK _ _ (.inr (.inl hG)) ?_
 clear hK h9
 refine rP 7 ?_ (y:=(jJ ah aj aj (nM _ _)))
 refine rP 8 ?_ (y:=(jK ah aj aj))
 refine rP 9 ?_ (y:=aG)
 refine rP 10 ?_ (y:=(fV ah aj))
 refine dK 11 aj au bC (FN (b:=b4) (o:=0) (ay k) ah ah Tryz.underlying30 rfl (by rw [dW.out];kernel_rfl) (fun w hw=>hw)) aQ gQ ?_
 clear hG
 refine bG 12 aj au (fun K hK=>?_)
 refine zx [ptr s,.agg (ay k).toArray] ah au ah ?_
 have hct:=Lc (k:=k) aJ qU.out (hG1 _ h10.drop.drop)
 rw [IV.out]at hct
 have hct:Calls _ _ _ _ (aI fun v w'=>v = .agg (aN ⟨1,3⟩).toArray∧gX w0 s m (0+1) (0+1) T2 _ w'):=hct
 refine hct.mono ?_
 rintro ee fU ⟨v,rfl,rfl,h11⟩
 refine hK _ _ (.inl rfl) ?_
 clear hK h10 hct
 refine rP 13 ?_ (y:=(LM ah aj aes))
 refine rP 14 ?_ (y:=(jJ ah aj aj bT))
 refine rP 15 ?_ (y:=(jK ah aj aj))
 refine rP 16 ?_ (y:=dN)
 refine cu au ?_
 clear nM
 obtain ⟨_,_,_,_,_,_,_,_,_,_,_,_,_,_,_,_,hF⟩:=h11
 have iP:=uQ (hF.sb:Sat w0 fU F)
 clear hF
 go_wp2_with fail
 go_ret
 exact ⟨_,rfl,rfl,iP.out⟩
end
end Go.Proofs.YtlimfgdbfadohaaGreatDoor
namespace Go.aA
theorem Ba {n:Nat}{s:St}{b:Bs} (h:64≤b.length):blocks (n+1) s b=blocks n (take s (b.take 64)) (b.drop 64):=by
 show (if b.length<64 then (s,b) else blocks n (take s (b.take 64)) (b.drop 64))=_
 rw [if_neg oQ]
theorem NT:∀ (k m:Nat) (s:St) (u v:Bs),u.length=64 * k→blocks (k+m) s (u++v)=blocks m (blocks k s u).1 v
 |0,m,s,u,v,h=>by
  have:u=[]:=List.length_eq_zero_iff.1 oQ
  subst this
  rw [Nat.zero_add];rfl
 |k+1,m,s,u,v,h=>by
  rw [show k+1+m=(k+m)+1 by omega]
  rw [Ba (by rw [List.length_append];omega),Ba oQ,List.take_append_of_le_length oQ,List.drop_append_of_le_length oQ]
  exact NT k m _ (u.drop 64) v (by rw [List.length_drop];omega)
theorem NW:∀ (k:Nat) (s:St) (b:Bs),b.length / 64=k→(blocks k s b).2=b.drop (64 * k)∧(blocks k s b).1=(blocks k s (b.take (64 * k))).1
 |0,s,b,h=>⟨by simp [blocks],rfl⟩
 |k+1,s,b,h=>by
  have h1:=NW k (take s (b.take 64)) (b.drop 64) (by rw [List.length_drop];omega)
  rw [Ba oQ,Ba (by rw [List.length_take];omega),h1.1,h1.2,List.drop_drop,List.take_take,Nat.min_eq_left oQ,List.drop_take]
  exact ⟨by congr 1;omega,by congr 3⟩
def oh (b:Bs):Bs:=b++[128]++List.replicate ((119 - b.length%64)%64) 0++fE (8 * b.length) 8
theorem acP (b:Bs):(oh b).length=64 * ((oh b).length / 64):=by
 have:(fE (8 * b.length) 8).length=8:=by unfold fE;rw [List.length_reverse,ak.gW]
 unfold oh
 simp only [List.length_append,List.length_replicate,List.length_singleton,this]
 omega
theorem afQ (b:Bs):sum b=((blocks ((oh b).length / 64) begin (oh b)).1.l).flatMap fun w=>fE w 4:=by
 have h1:=NW (b.length / 64) begin b rfl
 unfold sum
 dsimp only
 rw [h1.1,h1.2]
 have hb:(b.take (64 * (b.length / 64))).length=64 * (b.length / 64):=by rw [List.length_take];omega
 have hr:(b.drop (64 * (b.length / 64))).length=b.length%64:=by rw [List.length_drop];omega
 have he:oh b=b.take (64 * (b.length / 64))++(pad (b.drop (64 * (b.length / 64)))++fE (8 * b.length) 8):=by
  unfold oh pad
  rw [hr,Nat.mod_mod]
  conv=>lhs;rw [← List.take_append_drop (64 * (b.length / 64)) b]
  simp only [List.append_assoc,List.length_append]
  congr 7
  all_goals rw [← List.length_append,List.take_append_drop]
 have hl:=congrArg List.length he
 rw [List.length_append,hb]at hl
 have hk:=NT (b.length / 64) ((pad (b.drop (64 * (b.length / 64)))++fE (8 * b.length) 8).length / 64) begin (b.take (64 * (b.length / 64))) (pad (b.drop (64 * (b.length / 64)))++fE (8 * b.length) 8) hb
 rw [← he]at hk
 rw [show (oh b).length / 64=b.length / 64+(pad (b.drop (64 * (b.length / 64)))++fE (8 * b.length) 8).length / 64 by omega,hk]
theorem Yq (e f g:Nat) (he:e<W):(e &&& f) ||| ((e ^^^ 4294967295) &&& g)=(e &&& f) ^^^ ((W - 1 - e) &&& g):=by
 have hx:W - 1 - e=e ^^^ 4294967295:=by
  apply Nat.eq_of_testBit_eq
  intro i
  have:=Nat.testBit_two_pow_sub_succ (n:=32) (x:=e) (by exact he) i
  rw [show W - 1 - e=2^32 - (e+1) by show 4294967296 - 1 - e=4294967296 - (e+1);omega,this,Nat.testBit_xor,show (4294967295:Nat)=2^32 - 1 from rfl,Nat.testBit_two_pow_sub_one]
  by_cases hi:i<32
  ·simp [hi]
  ·have:e.testBit i=false:=Nat.testBit_lt_two_pow (Nat.lt_of_lt_of_le he (Nat.pow_le_pow_right aJ oQ:2^32≤2^i))
   simp [hi,this]
 rw [hx]
 apply Nat.eq_of_testBit_eq
 intro i
 simp only [Nat.testBit_or,Nat.testBit_and,Nat.testBit_xor]
 cases h1:e.testBit i <;> cases h2:f.testBit i <;> cases h3:g.testBit i <;> cases h4:Nat.testBit 4294967295 i <;> simp_all
 all_goals
  rw [show (4294967295:Nat)=2^32 - 1 from rfl,Nat.testBit_two_pow_sub_one]at h4
  have:e.testBit i=false:=Nat.testBit_lt_two_pow (Nat.lt_of_lt_of_le he (Nat.pow_le_pow_right aJ (by simpa using h4):2^32≤2^i))
  simp_all
theorem abO (a b c:Nat):(a &&& b) ||| (a &&& c) ||| (b &&& c)=(a &&& b) ^^^ (a &&& c) ^^^ (b &&& c):=by
 apply Nat.eq_of_testBit_eq
 intro i
 simp only [Nat.testBit_or,Nat.testBit_and,Nat.testBit_xor]
 cases a.testBit i <;> cases b.testBit i <;> cases c.testBit i <;> rfl
end Go.aA
namespace Go.Proofs.YtlimfgdbfadohaaGreatDoor
open Go Go.Sl Go.aB Go.MapKept Go.RowKit
section
variable {w0 w:World}{F:List aC}{bv:Value}{b:ak.Bs}
theorem agx (x:Nat) (hx:x<4294967296) (w:World):Calls Tryz.prog 60 #[.int .u32 x,.int .u64 2] w (aI fun v w'=>v = .int .u32 (aA.rr 2 x:Nat)∧w=w'):=by
 have hf:=uQ (show aA.rr 2 x=(x / 4) ||| (x * 1073741824%4294967296) from Nat.or_comm _ _)
 have e1:IntKind.u32.wrap ((x:Int) * 1073741824)=((x * 1073741824%4294967296:Nat):Int):=by rw [IntKind.wrap_u32];omega
 have e2:(x:Int) / 4=((x / 4:Nat):Int):=rfl
 have ha:x * 1073741824%4294967296<4294967296:=Nat.mod_lt _ aJ
 have hb:x / 4<4294967296:=Nat.lt_of_le_of_lt (Nat.div_le_self _ _) hx
 generalize x * 1073741824%4294967296=a at *
 generalize x / 4=b at *
 have e3:=u32_or_nat b a hb ha
 have e0:IntKind.u64.wrap (32 - 2:Int)=30:=by decide
 clear ha hb
 go_enter Tryz.func60,Tryz.ntmps60
 go_wp2
 go_ret
 exact ⟨_,rfl,by rw [hf.out];rfl,rfl⟩
theorem agy (x:Nat) (hx:x<4294967296) (w:World):Calls Tryz.prog 60 #[.int .u32 x,.int .u64 6] w (aI fun v w'=>v = .int .u32 (aA.rr 6 x:Nat)∧w=w'):=by
 have hf:=uQ (show aA.rr 6 x=(x / 64) ||| (x * 67108864%4294967296) from Nat.or_comm _ _)
 have e1:IntKind.u32.wrap ((x:Int) * 67108864)=((x * 67108864%4294967296:Nat):Int):=by rw [IntKind.wrap_u32];omega
 have e2:(x:Int) / 64=((x / 64:Nat):Int):=rfl
 have ha:x * 67108864%4294967296<4294967296:=Nat.mod_lt _ aJ
 have hb:x / 64<4294967296:=Nat.lt_of_le_of_lt (Nat.div_le_self _ _) hx
 generalize x * 67108864%4294967296=a at *
 generalize x / 64=b at *
 have e3:=u32_or_nat b a hb ha
 have e0:IntKind.u64.wrap (32 - 6:Int)=26:=by decide
 clear ha hb
 go_enter Tryz.func60,Tryz.ntmps60
 go_wp2
 go_ret
 exact ⟨_,rfl,by rw [hf.out];rfl,rfl⟩
theorem agz (x:Nat) (hx:x<4294967296) (w:World):Calls Tryz.prog 60 #[.int .u32 x,.int .u64 7] w (aI fun v w'=>v = .int .u32 (aA.rr 7 x:Nat)∧w=w'):=by
 have hf:=uQ (show aA.rr 7 x=(x / 128) ||| (x * 33554432%4294967296) from Nat.or_comm _ _)
 have e1:IntKind.u32.wrap ((x:Int) * 33554432)=((x * 33554432%4294967296:Nat):Int):=by rw [IntKind.wrap_u32];omega
 have e2:(x:Int) / 128=((x / 128:Nat):Int):=rfl
 have ha:x * 33554432%4294967296<4294967296:=Nat.mod_lt _ aJ
 have hb:x / 128<4294967296:=Nat.lt_of_le_of_lt (Nat.div_le_self _ _) hx
 generalize x * 33554432%4294967296=a at *
 generalize x / 128=b at *
 have e3:=u32_or_nat b a hb ha
 have e0:IntKind.u64.wrap (32 - 7:Int)=25:=by decide
 clear ha hb
 go_enter Tryz.func60,Tryz.ntmps60
 go_wp2
 go_ret
 exact ⟨_,rfl,by rw [hf.out];rfl,rfl⟩
theorem agq (x:Nat) (hx:x<4294967296) (w:World):Calls Tryz.prog 60 #[.int .u32 x,.int .u64 11] w (aI fun v w'=>v = .int .u32 (aA.rr 11 x:Nat)∧w=w'):=by
 have hf:=uQ (show aA.rr 11 x=(x / 2048) ||| (x * 2097152%4294967296) from Nat.or_comm _ _)
 have e1:IntKind.u32.wrap ((x:Int) * 2097152)=((x * 2097152%4294967296:Nat):Int):=by rw [IntKind.wrap_u32];omega
 have e2:(x:Int) / 2048=((x / 2048:Nat):Int):=rfl
 have ha:x * 2097152%4294967296<4294967296:=Nat.mod_lt _ aJ
 have hb:x / 2048<4294967296:=Nat.lt_of_le_of_lt (Nat.div_le_self _ _) hx
 generalize x * 2097152%4294967296=a at *
 generalize x / 2048=b at *
 have e3:=u32_or_nat b a hb ha
 have e0:IntKind.u64.wrap (32 - 11:Int)=21:=by decide
 clear ha hb
 go_enter Tryz.func60,Tryz.ntmps60
 go_wp2
 go_ret
 exact ⟨_,rfl,by rw [hf.out];rfl,rfl⟩
theorem agr (x:Nat) (hx:x<4294967296) (w:World):Calls Tryz.prog 60 #[.int .u32 x,.int .u64 13] w (aI fun v w'=>v = .int .u32 (aA.rr 13 x:Nat)∧w=w'):=by
 have hf:=uQ (show aA.rr 13 x=(x / 8192) ||| (x * 524288%4294967296) from Nat.or_comm _ _)
 have e1:IntKind.u32.wrap ((x:Int) * 524288)=((x * 524288%4294967296:Nat):Int):=by rw [IntKind.wrap_u32];omega
 have e2:(x:Int) / 8192=((x / 8192:Nat):Int):=rfl
 have ha:x * 524288%4294967296<4294967296:=Nat.mod_lt _ aJ
 have hb:x / 8192<4294967296:=Nat.lt_of_le_of_lt (Nat.div_le_self _ _) hx
 generalize x * 524288%4294967296=a at *
 generalize x / 8192=b at *
 have e3:=u32_or_nat b a hb ha
 have e0:IntKind.u64.wrap (32 - 13:Int)=19:=by decide
 clear ha hb
 go_enter Tryz.func60,Tryz.ntmps60
 go_wp2
 go_ret
 exact ⟨_,rfl,by rw [hf.out];rfl,rfl⟩
theorem ags (x:Nat) (hx:x<4294967296) (w:World):Calls Tryz.prog 60 #[.int .u32 x,.int .u64 17] w (aI fun v w'=>v = .int .u32 (aA.rr 17 x:Nat)∧w=w'):=by
 have hf:=uQ (show aA.rr 17 x=(x / 131072) ||| (x * 32768%4294967296) from Nat.or_comm _ _)
 have e1:IntKind.u32.wrap ((x:Int) * 32768)=((x * 32768%4294967296:Nat):Int):=by rw [IntKind.wrap_u32];omega
 have e2:(x:Int) / 131072=((x / 131072:Nat):Int):=rfl
 have ha:x * 32768%4294967296<4294967296:=Nat.mod_lt _ aJ
 have hb:x / 131072<4294967296:=Nat.lt_of_le_of_lt (Nat.div_le_self _ _) hx
 generalize x * 32768%4294967296=a at *
 generalize x / 131072=b at *
 have e3:=u32_or_nat b a hb ha
 have e0:IntKind.u64.wrap (32 - 17:Int)=15:=by decide
 clear ha hb
 go_enter Tryz.func60,Tryz.ntmps60
 go_wp2
 go_ret
 exact ⟨_,rfl,by rw [hf.out];rfl,rfl⟩
theorem agt (x:Nat) (hx:x<4294967296) (w:World):Calls Tryz.prog 60 #[.int .u32 x,.int .u64 18] w (aI fun v w'=>v = .int .u32 (aA.rr 18 x:Nat)∧w=w'):=by
 have hf:=uQ (show aA.rr 18 x=(x / 262144) ||| (x * 16384%4294967296) from Nat.or_comm _ _)
 have e1:IntKind.u32.wrap ((x:Int) * 16384)=((x * 16384%4294967296:Nat):Int):=by rw [IntKind.wrap_u32];omega
 have e2:(x:Int) / 262144=((x / 262144:Nat):Int):=rfl
 have ha:x * 16384%4294967296<4294967296:=Nat.mod_lt _ aJ
 have hb:x / 262144<4294967296:=Nat.lt_of_le_of_lt (Nat.div_le_self _ _) hx
 generalize x * 16384%4294967296=a at *
 generalize x / 262144=b at *
 have e3:=u32_or_nat b a hb ha
 have e0:IntKind.u64.wrap (32 - 18:Int)=14:=by decide
 clear ha hb
 go_enter Tryz.func60,Tryz.ntmps60
 go_wp2
 go_ret
 exact ⟨_,rfl,by rw [hf.out];rfl,rfl⟩
theorem agu (x:Nat) (hx:x<4294967296) (w:World):Calls Tryz.prog 60 #[.int .u32 x,.int .u64 19] w (aI fun v w'=>v = .int .u32 (aA.rr 19 x:Nat)∧w=w'):=by
 have hf:=uQ (show aA.rr 19 x=(x / 524288) ||| (x * 8192%4294967296) from Nat.or_comm _ _)
 have e1:IntKind.u32.wrap ((x:Int) * 8192)=((x * 8192%4294967296:Nat):Int):=by rw [IntKind.wrap_u32];omega
 have e2:(x:Int) / 524288=((x / 524288:Nat):Int):=rfl
 have ha:x * 8192%4294967296<4294967296:=Nat.mod_lt _ aJ
 have hb:x / 524288<4294967296:=Nat.lt_of_le_of_lt (Nat.div_le_self _ _) hx
 generalize x * 8192%4294967296=a at *
 generalize x / 524288=b at *
 have e3:=u32_or_nat b a hb ha
 have e0:IntKind.u64.wrap (32 - 19:Int)=13:=by decide
 clear ha hb
 go_enter Tryz.func60,Tryz.ntmps60
 go_wp2
 go_ret
 exact ⟨_,rfl,by rw [hf.out];rfl,rfl⟩
theorem agv (x:Nat) (hx:x<4294967296) (w:World):Calls Tryz.prog 60 #[.int .u32 x,.int .u64 22] w (aI fun v w'=>v = .int .u32 (aA.rr 22 x:Nat)∧w=w'):=by
 have hf:=uQ (show aA.rr 22 x=(x / 4194304) ||| (x * 1024%4294967296) from Nat.or_comm _ _)
 have e1:IntKind.u32.wrap ((x:Int) * 1024)=((x * 1024%4294967296:Nat):Int):=by rw [IntKind.wrap_u32];omega
 have e2:(x:Int) / 4194304=((x / 4194304:Nat):Int):=rfl
 have ha:x * 1024%4294967296<4294967296:=Nat.mod_lt _ aJ
 have hb:x / 4194304<4294967296:=Nat.lt_of_le_of_lt (Nat.div_le_self _ _) hx
 generalize x * 1024%4294967296=a at *
 generalize x / 4194304=b at *
 have e3:=u32_or_nat b a hb ha
 have e0:IntKind.u64.wrap (32 - 22:Int)=10:=by decide
 clear ha hb
 go_enter Tryz.func60,Tryz.ntmps60
 go_wp2
 go_ret
 exact ⟨_,rfl,by rw [hf.out];rfl,rfl⟩
theorem agw (x:Nat) (hx:x<4294967296) (w:World):Calls Tryz.prog 60 #[.int .u32 x,.int .u64 25] w (aI fun v w'=>v = .int .u32 (aA.rr 25 x:Nat)∧w=w'):=by
 have hf:=uQ (show aA.rr 25 x=(x / 33554432) ||| (x * 128%4294967296) from Nat.or_comm _ _)
 have e1:IntKind.u32.wrap ((x:Int) * 128)=((x * 128%4294967296:Nat):Int):=by rw [IntKind.wrap_u32];omega
 have e2:(x:Int) / 33554432=((x / 33554432:Nat):Int):=rfl
 have ha:x * 128%4294967296<4294967296:=Nat.mod_lt _ aJ
 have hb:x / 33554432<4294967296:=Nat.lt_of_le_of_lt (Nat.div_le_self _ _) hx
 generalize x * 128%4294967296=a at *
 generalize x / 33554432=b at *
 have e3:=u32_or_nat b a hb ha
 have e0:IntKind.u64.wrap (32 - 25:Int)=7:=by decide
 clear ha hb
 go_enter Tryz.func60,Tryz.ntmps60
 go_wp2
 go_ret
 exact ⟨_,rfl,by rw [hf.out];rfl,rfl⟩
theorem Tn (hl:b.length≤1000) (hr:RS w0 F bv b) (h:Sat w0 w F) :
  Calls Tryz.prog 59 #[bv] w (aI fun v w'=>Sat w0 w' (aK v b.reverse::F)):=by
 obtain ⟨a,c,rfl,_,_⟩:=hr.len h
 have hw1:IntKind.i64.wrap ((b.length:Int) - 1)=(b.length:Int) - 1:=IntWalk.i64_in _ oQ
 have Hl:=uQ hl;have Hr:=uQ hr
 clear hl hr
 go_enter Tryz.func59,Tryz.ntmps59
 go_wp2_with fail
 go_loopg [3,4] b.length (fun g oq iq wr=>∃ (m:Nat) (z:Int) (ov:Value),m=g∧m≤b.length∧ov=oq∧iq = .int .i64 z∧z=(m:Int) - 1∧Sat w0 wr (aK ov ((b.drop m).reverse)::F))
 case atStart=>exact ⟨b.length,_,_,rfl,Nat.le_refl _,rfl,rfl,rfl,by rw [List.drop_length];exact Sat.fM.2 h⟩
 case round=>
  obtain ⟨m,zz,ov,rfl,hm,rfl,rfl,hzz,hS⟩:=hrel
  clear h hw1
  cases m with
  |zero=>
   have c1:¬ (0:Int)≤zz:=oQ
   rw [List.drop_zero]at hS
   clear hzz hm
   go_wp2_with fail
   go_ret
   exact ⟨_,rfl,hS⟩
  |succ m=>
   obtain rfl:zz=(m:Int):=by omega
   have hlt:m<b.length:=hm
   have c1:(0:Int)≤(m:Int):=oQ
   have c2:(m:Int)<(b.length:Int):=oQ
   have g1:(ay b)[m]?=some (.int .u8 (b[m]'hlt).toNat):=nX.2 ⟨_,List.getElem?_eq_getElem hlt,rfl⟩
   obtain ⟨bk,off,rfl,hcs⟩:=iU (Hr.out.rd _ (hS.sb:Sat w0 wr F)) g1
   have e1:=hcs _ _ g1
   have Hd:=uQ (show (b.drop (m+1)).reverse++[b[m]'hlt]=(b.drop m).reverse by rw [← List.reverse_cons,List.getElem_cons_drop])
   have Hlen:=uQ (show ((b.drop (m+1)).reverse).length≤1000 by rw [List.length_reverse,List.length_drop];have:=Hl.out;omega)
   have Hm:=uQ hm
   have hw2:IntKind.i64.wrap ((m:Int) - 1)=(m:Int) - 1:=IntWalk.i64_in _ (by have:=Hl.out;omega)
   generalize b[m]'hlt=x at *
   obtain ⟨oa,on,oc,rfl,x1,x2,x3⟩:=iY hS
   clear g1 hcs hlt hzz hm x1 x2 x3
   go_wp2_with (first
    |((with_reducible refine kU ⟨?_⟩);refine lu (e:=5) (sz:=1) (dX:=1) au hS ah (cs:=#[.int .u8 x.toNat]) rfl rfl bH ?_;intro bN wN hN)
    |(with_reducible apply jf))
   refine ⟨lq 5 1 1 au hN ah ah (xs:=ay ((b.drop (m+1)).reverse)) aP aH ah (Nat.le_refl 1) ah (by rw [aU];have:=Hlen.out;omega) (by show 1≤65536;decide) aJ (ys:=ay [x]) rfl ?_⟩
   intro bA nA cA wA hA
   rw [← jQ,Hd.out]at hA
   clear hN hS e1
   go_wp2_with fail
   go_roundg m
   case measure=>exact Nat.lt_succ_self m
   case rel=>exact ⟨m,_,_,rfl,by have:=Hm.out;omega,rfl,rfl,rfl,hA⟩
set_option maxRecDepth 20000 in
theorem ad2 (hl:b.length≤1000) (hr:RS w0 F bv b) (h:Sat w0 w F) :
  Calls Tryz.prog 28 #[bv] w (aI fun v w'=>Sat w0 w' (aK v (aA.oh b)::F)):=by
 obtain ⟨a,c,rfl,y1,y2⟩:=hr.len h
 have hcp:=Oo h b (hr.rd w h) oQ
 obtain ⟨Z,hZ⟩:∃ Z,(119 - b.length%64)%64=Z:=⟨_,rfl⟩
 have HP:=uQ (show aA.oh b=b++[128]++List.replicate Z 0++aA.fE (8 * b.length) 8 by unfold aA.oh;rw [hZ])
 obtain ⟨n,hn⟩:∃ n,b.length=n:=⟨_,rfl⟩
 have HZ:=uQ (show Z<64∧(n+1+Z)%64=56∧∀ z,z<Z→(n+1+z)%64≠56 from ⟨by omega,by omega,fun z hz=>by omega⟩)
 rw [hn]at HP hl ⊢
 have Hn:=uQ hn;have Hl:=uQ hl
 have hwn:IntKind.u64.wrap (n:Int)=(n:Int):=by rw [IntKind.wrap_u64];omega
 obtain ⟨n8,Qz⟩:∃ x,8 * n=x:=⟨_,rfl⟩
 have hw8:IntKind.u64.wrap ((n:Int) * 8)=(n8:Int):=by rw [IntKind.wrap_u64];omega
 have ML:=uQ Qz
 rw [hn]at hcp
 clear hr h y1 y2 hZ hn hl Qz
 go_enter Tryz.func28,Tryz.ntmps28
 go_wp2_with fail
 refine hcp.mono ?_
 rintro ee w1 ⟨v,rfl,h1,va,vn,vc,rfl⟩
 clear hcp
 go_wp2_with (first
  |((with_reducible refine kU ⟨?_⟩);refine lu (e:=5) (sz:=1) (dX:=1) au h1 ah (cs:=#[.int .u8 128]) rfl rfl bH ?_;intro bN wN hN)
  |(with_reducible apply jf))
 refine ⟨lq 5 1 1 au hN ah ah (xs:=ay b) aP aH ah (Nat.le_refl 1) ah (by rw [aU,Hn.out];have:=Hl.out;omega) (by show 1≤65536;decide) aJ (ys:=ay [128]) rfl ?_⟩
 intro bA nA cA wA hA
 have h2:Sat w0 wA (aK (.slice (some ⟨bA,0,none⟩) nA cA) (b++[128]++List.replicate 0 0)::F):=by rw [← jQ]at hA;rw [List.replicate_zero,List.append_nil];exact hA
 clear hN hA h1
 go_wp2_with fail
 go_loopg [3] Z (fun g oq wr=>∃ (z:Nat) (ov:Value),g=Z - z∧z≤Z∧ov=oq∧Sat w0 wr (aK ov (b++[128]++List.replicate z 0)::F))
 case atStart=>exact ⟨0,_,rfl,Nat.zero_le _,rfl,h2⟩
 case round=>
  obtain ⟨z,ov,rfl,hz,rfl,hS⟩:=hrel
  clear h2
  obtain ⟨oa,on,oc,rfl,x1,x2,x3⟩:=iY hS
  have hol:on=n+1+z:=by rw [x3];simp only [List.length_append,List.length_singleton,List.length_replicate,Hn.out]
  obtain ⟨q1,q2,q3⟩:=HZ.out
  clear x1 x2 x3
  by_cases EH:z<Z
  ·have hne:=q3 z EH
   have m1:((on:Int)%64==56)=false:=by rw [beq_eq_false_iff_ne];omega
   have m2:¬ (on:Int)%64=56:=oQ
   have m3:¬ on%64=56:=oQ
   have m4:(on%64==56)=false:=beq_eq_false_iff_ne.2 m3
   have Hz:=uQ EH
   have Hlen:=uQ (show (b++[128]++List.replicate z (0:UInt8)).length≤2000 by simp only [List.length_append,List.length_singleton,List.length_replicate,Hn.out];have:=Hl.out;omega)
   clear hol q1 q2 q3 hz hne EH
   go_wp2_with (first
    |((with_reducible refine kU ⟨?_⟩);refine lu (e:=5) (sz:=1) (dX:=1) au hS ah (cs:=#[.int .u8 0]) rfl rfl bH ?_;intro bN wN hN)
    |(with_reducible apply jf))
   refine ⟨lq 5 1 1 au hN ah ah (xs:=ay (b++[128]++List.replicate z 0)) aP aH ah (Nat.le_refl 1) ah (by rw [aU];have:=Hlen.out;omega) (by show 1≤65536;decide) aJ (ys:=ay [0]) rfl ?_⟩
   intro bB nB cB wB hB
   rw [← jQ,List.append_assoc,← List.replicate_succ']at hB
   clear hN hS
   go_wp2_with fail
   go_roundg (Z - (z+1))
   case measure=>have:=Hz.out;omega
   case rel=>exact ⟨z+1,_,rfl,Hz.out,rfl,hB⟩
  ·obtain rfl:z=Z:=by omega
   have m1:((on:Int)%64==56)=true:=by rw [beq_iff_eq];omega
   have m2:(on:Int)%64=56:=oQ
   have m3:on%64=56:=oQ
   have m4:(on%64==56)=true:=by rw [beq_iff_eq];exact m3
   have hput:=TW n8 8 (by have:=Hl.out;have:=ML.out;omega) aJ aJ hS
   have Hlen:=uQ (show (b++[128]++List.replicate z (0:UInt8)).length≤2000 by simp only [List.length_append,List.length_singleton,List.length_replicate,Hn.out];have:=Hl.out;omega)
   clear hol q1 q2 q3 hz EH hS
   go_wp2_with fail
   clear m1 m2 m3 m4
   refine hput.mono ?_
   rintro ee w4 ⟨v,rfl,h4,pa,pn,pc,rfl⟩
   have hbk:=Tn (b:=ak.le n8 8) (by rw [ak.gW];decide) (RS.sK h4) h4
   clear hput
   go_wp2_with fail
   refine hbk.mono ?_
   rintro ee w5 ⟨v,rfl,h5⟩
   clear hbk h4
   go_wp2_with (with_reducible apply jf)
   refine ⟨wY 5 1 1 au h5 ah ah (xs:=ay (b++[128]++List.replicate z 0)) (ys:=ay ((ak.le n8 8).reverse)) dM (Sat.rd h5) (jU _) (by rw [aU,aU,List.length_reverse,ak.gW];have:=Hlen.out;omega) aJ ?_⟩
   intro v6 w6 h6
   rw [← jQ]at h6
   have iP:=uQ (show Sat w0 w6 (aK v6 (aA.oh b)::F) by rw [HP.out,ML.out];exact (show Sat w0 w6 (aK v6 (b++[128]++List.replicate z 0++(ak.le n8 8).reverse)::aK v (ak.le n8 8).reverse::aK (.slice pa pn pc) (ak.le n8 8)::F) from h6).sb)
   clear h5 h6
   go_wp2_with fail
   go_ret
   exact ⟨_,rfl,iP.out⟩
end
end Go.Proofs.YtlimfgdbfadohaaGreatDoor
