import Derived.Test.YtlimfgdbfadohaaGreatDoorJ5
import Derived.Laws.Slices
set_option linter.unusedVariables false
set_option maxHeartbeats 128000000
namespace Go.Rep
structure Use where
 seg:Int
 size:Int
 live:Int
def upd (kv:List (ak.Bs×dP)) (u:Use):Use:=⟨u.seg,u.size,fK u.seg kv⟩
def half (kv:List (ak.Bs×dP)) (us:List Use) (i:Nat):List Use:=(us.take i).map (upd kv)++us.drop i
section
variable {kv:List (ak.Bs×dP)}{us:List Use}{i:Nat}{u:Use}
theorem IX:(half kv us i).length=us.length:=by
 unfold half
 rw [List.length_append,List.length_map,← List.length_append,List.take_append_drop]
theorem Z':half kv us us.length=us.map (upd kv):=by unfold half;rw [List.take_length,List.drop_length,List.append_nil]
theorem aac (h:us[i]?=some u):(half kv us i)[i]?=some u:=by
 unfold half
 have hi:=(List.getElem?_eq_some_iff.1 h).1
 have e:((us.take i).map (upd kv)).length=i:=by rw [List.length_map,List.length_take];omega
 rw [List.getElem?_append_right oQ,e,Nat.sub_self,List.getElem?_drop,Nat.add_zero];exact h
theorem aad (h:us[i]?=some u):(half kv us i).set i (upd kv u)=half kv us (i+1):=by
 obtain ⟨hi,rfl⟩:=List.getElem?_eq_some_iff.1 h
 have e:((us.take i).map (upd kv)).length=i:=by rw [List.length_map,List.length_take];omega
 unfold half
 rw [List.set_append_right _ _ oQ,e,Nat.sub_self,List.drop_eq_getElem_cons hi,List.set_cons_zero,List.take_add_one,List.getElem?_eq_getElem hi,Option.toList_some,List.map_append,List.append_assoc]
 rfl
end
end Go.Rep
namespace Go.Proofs.YtlimfgdbfadohaaGreatDoor
open Go Go.Sl Go.aB Go.MapKept Go.RowKit
def gU (u:Rep.Use):List Value:=[.int .i64 u.seg,.int .i64 u.size,.int .i64 u.live]
theorem ahn:iH Tryz.prog 207=some (.agg (gU ⟨0,0,0⟩).toArray):=by kernel_rfl
theorem ahi:iH Tryz.prog 205=some (.map none):=by kernel_rfl
theorem ahg:iH Tryz.prog 30=some (.agg (ay ak.zero32).toArray):=by kernel_rfl
abbrev iw (ps:Nat) (last:Int) (pi:Nat) (uv tv:Value):aC:=pt ps (.cells #[.int .i64 last,ptr pi,uv,tv] 104 (0,0))
def O7 (F:List aC) (ps b2 b3 b4 bm pi pg:Nat) (last:Int) (uv tv:Value) (us:List Rep.Use) (kv:List (ak.Bs×Rep.dP)) (pre:List (Array Value)):List aC:=
 iw ps last pi uv tv::pt b2 (.cells #[ptr ps] 97 (0,0))::pt b4 (.cells #[.map (some bm)] 205 (0,0))::kH bm (fun s=>Rep.fK s (kv.take pre.length)) ::
 aZ pi (Tab.mapOf (Rep.puts (kv.take pre.length))) pre.length::aF 207 3 uv (us.flatMap gU)::pt b3 (.cells #[ptr pg] 216 (0,0))::F
section
variable {w0 w:World}{F:List aC}{ps pi pg B:Nat}{last:Int}{uv tv:Value}{us:List Rep.Use}{m:ak.Bs→Option Rep.dP}{kv:List (ak.Bs×Rep.dP)}
set_option maxRecDepth 20000 in
theorem Zp (hl:Tab.Lists m kv) (hB:B≤13000000) (hkl:kv.length≤13000000) (hks:∀ p∈kv,p.1.length=32∧0≤p.2.place.size∧p.2.place.size≤4294967296) (hu:us.length≤13000000)
  (h:Sat w0 w (iw ps last pi uv tv::aZ pi (fun _=>none) 0::eF pg m B::aF 207 3 uv (us.flatMap gU)::F)) :
  Calls Tryz.prog 126 #[ptr ps,.agg #[ptr pg]] w (aI fun _ w'=>Sat w0 w' (iw ps last pi uv tv::aZ pi (Tab.mapOf (Rep.puts kv)) kv.length::eF pg m B::aF 207 3 uv ((us.map (Rep.upd kv)).flatMap gU)::F)):=by
 have Hl:=uQ hl;have HB:=uQ hB;have qU:=uQ hkl;have dW:=uQ hks;have Hu:=uQ hu
 have Hlen:=uQ (show ∀ u∈us,(gU u).length=3 from fun u _=>rfl)
 clear hl hB hkl hks hu
 have hmm:=@run_makeMap Tryz.prog
 refine Oa Tryz.func126 rfl ?_
 simp only [Tryz.ntmps126,List.size_toArray,List.length_cons,List.length_nil,Nat.reduceAdd,Nat.reduceSub,Array.replicate_succ,Array.replicate_zero,List.push_toArray,List.append_toArray,List.nil_append,List.cons_append]
 go_wp2_with (with_reducible apply fH)
 refine ⟨fO h aj aj ?_⟩
 intro b2 w2 h2
 go_wp2_with (with_reducible apply fH)
 refine ⟨fO h2 aj aj ?_⟩
 intro b3 w3 h3
 have Qb:=aaL h3
 go_wp2_with (with_reducible apply dY)
 refine ⟨dS ahi Qb rfl ?_⟩
 intro b4 w4 h4
 generalize w3.heap.size=bm at *
 go_wp2_with (first
  |((with_reducible refine bU ⟨?_⟩);refine eX h4 ah aj ah bJ bH au ah ?_;intro w5 h5)
  |((with_reducible refine bI ⟨?_⟩);refine gK h5 ah aY bH aj au ?_))
 refine (XJ h5).mono ?_
 rintro ee w6 ⟨v,rfl,bA,rfl,h6⟩
 go_wp2_with fail
 have h7:Sat w0 w6 (eF pg m B::pt bA (.cells #[ptr pg] 211 (0,0))::iw ps last pi uv tv::pt b2 (.cells #[ptr ps] 97 (0,0))::pt b4 (.cells #[.map (some bm)] 205 (0,0))::kH bm (fun _=>0) ::
   aZ pi (fun _=>none) 0::aF 207 3 uv (us.flatMap gU)::pt b3 (.cells #[ptr pg] 216 (0,0))::F):=h6.sb
 clear h h2 h3 Qb h4 h5 h6 hmm
 refine Vu (gf:=201) (lb:=#[ptr bA]) ah (fun args w=>by kernel_rfl) (XI HB.out Hl.out) ?_ (O7 F ps b2 b3 b4 bm pi pg last uv tv us kv) h7 ?_ ?_
 ·intro x hx
  obtain ⟨p,_,rfl⟩:=List.mem_map.1 hx
  rfl
 ·clear h7
  intro l pre x post U W hkv hS T hT
  obtain ⟨i,hi⟩:∃ i,i=pre.length:=⟨_,rfl⟩
  have hlt:i<kv.length:=by
   have:=congrArg List.length hkv
   rw [List.length_map,List.length_append,List.length_cons]at this
   omega
  obtain ⟨⟨k,y⟩,hy⟩:∃ p,kv[i]?=some p:=⟨_,List.getElem?_eq_getElem hlt⟩
  obtain rfl:x=oN (k,y):=by
   have e1:(kv.map oN)[i]?=some (oN (k,y)):=by rw [List.getElem?_map,hy];rfl
   rw [hkv,hi,List.getElem?_append_right (Nat.le_refl _),Nat.sub_self,List.getElem?_cons_zero]at e1
   exact Option.some.inj e1
  have hmem:=List.mem_of_getElem? hy
  obtain ⟨BM,hs0,hs1⟩:=dW.out _ hmem
  have htk:kv.take (i+1)=kv.take i++[(k,y)]:=by rw [List.take_add_one,hy,Option.toList_some]
  have hil:(pre++[oN (k,y)]).length=i+1:=by rw [List.length_append,hi];rfl
  have iM:=uQ htk;have jL:=uQ hil;have Hi:=uQ hi;have dH:=uQ hlt;have qj:=uQ BM;have Hs:=uQ (And.intro hs0 hs1)
  have hS0:Sat w0 W (iw ps last pi uv tv::pt b2 (.cells #[ptr ps] 97 (0,0))::pt b4 (.cells #[.map (some bm)] 205 (0,0))::kH bm (fun s=>Rep.fK s (kv.take i)) ::
   aZ pi (Tab.mapOf (Rep.puts (kv.take i))) i::aF 207 3 uv (us.flatMap gU)::pt b3 (.cells #[ptr pg] 216 (0,0))::(F++U)):=by rw [hi];exact hS
  clear hkv hS hi hlt hy hmem BM hs0 hs1 htk hil
  simp [oN]at hT
  subst hT
  refine wpIn_seq_k fun K hK=>?_
  refine sS ah fun K2 hK2=>?_
  go_wp2_with (with_reducible apply dY)
  refine ⟨dS ahg hS0 rfl ?_⟩
  intro b5 w5 h5
  go_wp2_with ((with_reducible refine bU ⟨?_⟩);refine eH (ay k).toArray h5 ah ah (by rw [List.size_toArray,aU,qj.out];rfl) bJ (by rw [List.size_toArray,aU,qj.out];kernel_rfl) (by rw [List.toList_toArray];exact D7 _) ?_;intro w6 h6)
  refine sS ah fun K3 hK3=>?_
  go_wp2_with (with_reducible apply dY)
  refine ⟨dS Dt h6 rfl ?_⟩
  intro b6 w7 h7
  go_wp2_with ((with_reducible refine bU ⟨?_⟩);refine eH (bf y).toArray h7 ah ah ah bJ au ah ?_;intro w8 h8)
  -- the body
  refine ⟨pt b6 (.cells (bf y).toArray 214 (0,0))::pt b5 (.cells (ay k).toArray 30 (0,0))::iw ps last pi uv tv::pt b2 (.cells #[ptr ps] 97 (0,0))::pt b4 (.cells #[.map (some bm)] 205 (0,0))::kH bm (fun s=>Rep.fK s (kv.take i)) ::
   aZ pi (Tab.mapOf (Rep.puts (kv.take i))) i::aF 207 3 uv (us.flatMap gU)::pt b3 (.cells #[ptr pg] 216 (0,0))::F,h8,?_⟩
  clear h8 h7 h6 h5 hS0
  intro U' w9 h9
  have h10:Sat w0 w9 (pt b6 (.cells (bf y).toArray 214 (0,0))::pt b5 (.cells (ay k).toArray 30 (0,0))::iw ps last pi uv tv::pt b2 (.cells #[ptr ps] 97 (0,0))::pt b4 (.cells #[.map (some bm)] 205 (0,0))::kH bm (fun s=>Rep.fK s (kv.take i)) ::
   aZ pi (Tab.mapOf (Rep.puts (kv.take i))) i::aF 207 3 uv (us.flatMap gU)::pt b3 (.cells #[ptr pg] 216 (0,0))::(F++U')):=h9
  clear h9
  have f0:w9.cell? ⟨b6,0,none⟩=some (.int .i64 y.tag):=h10.cellP aH 0 rfl
  refine wpIn_block (wpIn_seq_k fun K4 hK4=>wpIn_seq_k fun K5 hK5=>sS ah fun K6 hK6=>?_)
  by_cases ht:y.tag=0
  ·have hb:(y.tag==0)=true:=beq_iff_eq.2 ht
   have ql:=uQ (show Tab.mapOf (Rep.puts (kv.take (i+1)))=Tab.put (Tab.mapOf (Rep.puts (kv.take i))) k y.place by rw [iM.out,Rep.Tj,if_pos ht,Tab.abP])
   clear ht
   go_wp2_with fail
   refine wpIn_cond_true ah ?_
   have h11:=h10.drew
   have hG:w9.drew.cell? ⟨b2,0,none⟩=some (ptr ps)∧w9.drew.cell? ⟨ps,1,none⟩=some (ptr pi)∧w9.drew.rangeAt b5 0 (ay k)∧w9.drew.rangeAt b6 1 (aW y.place):=
    ⟨h11.cellP (aO (aO (aO aH))) 0 rfl,h11.cellP (aO (aO aH)) 1 rfl,lV (h11.pick (aO aH)),fun j v hj=>by
     refine h11.cellP aH (1+j) ?_
     rw [List.getElem?_toArray,Nat.add_comm]
     have hj3:j<3:=(List.getElem?_eq_some_iff.1 hj).1
     rcases j with _|_|_|j
     ·exact hj
     ·exact hj
     ·exact hj
     ·omega⟩
   refine adt [7] (fun w'=>w'.cell? ⟨b2,0,none⟩=some (ptr ps)∧w'.cell? ⟨ps,1,none⟩=some (ptr pi)∧w'.rangeAt b5 0 (ay k)∧w'.rangeAt b6 1 (aW y.place)) ah au fun K7 hK7=>?_
   refine rt 0 (h:=?_)
   refine rP 1 ?_ (y:=dL)
   refine rP 2 ?_ (y:=cO)
   refine rt 3 (h:=?_)
   refine dK 4 aj au bC (gu (b:=b5) (o:=0) (ay k) ah Tryz.underlying30 rfl (by rw [aU,qj.out];kernel_rfl) (fun w hw=>hw.2.2.1)) aQ gQ ?_
   refine rP 5 ?_ (y:=cO)
   refine dK 6 aj au bC (gu (b:=b6) (o:=1) (aW y.place) ah Tryz.underlying107 rfl au (fun w hw=>hw.2.2.2)) aQ gQ ?_
   clear hG
   have hp:=Kr (B:=i) (p:=pi) (by have:=dH.out;have:=qU.out;omega) qj.out y.place (h11.sb:Sat w0 w9.drew (aZ pi (Tab.mapOf (Rep.puts (kv.take i))) i::pt b6 (.cells (bf y).toArray 214 (0,0))::pt b5 (.cells (ay k).toArray 30 (0,0))::pt b2 (.cells #[ptr ps] 97 (0,0))::pt b4 (.cells #[.map (some bm)] 205 (0,0))::kH bm (fun s=>Rep.fK s (kv.take i))::iw ps last pi uv tv::aF 207 3 uv (us.flatMap gU)::pt b3 (.cells #[ptr pg] 216 (0,0))::(F++U')))
   clear h10 h11 f0
   refine bG 7 aj au (fun K' hK'=>?_)
   (refine vU au aj aj aj ?_)
   refine hp.mono ?_
   rintro ee fU ⟨v,rfl,h11⟩
   refine hK' _ _ (.inl rfl) ?_
   clear hK' hp
   refine cu au ?_
   rw [← ql.out]at h11
   have h12:Sat w0 fU (pt b6 (.cells (bf y).toArray 214 (0,0))::pt b5 (.cells (ay k).toArray 30 (0,0))::pt b2 (.cells #[ptr ps] 97 (0,0))::pt b4 (.cells #[.map (some bm)] 205 (0,0))::kH bm (fun s=>Rep.fK s (kv.take i))::iw ps last pi uv tv ::
    aZ pi (Tab.mapOf (Rep.puts (kv.take (i+1)))) (i+1)::aF 207 3 uv (us.flatMap gU)::pt b3 (.cells #[ptr pg] 216 (0,0))::(F++U')):=h11.sb
   clear h11
   go_wp2_with fail
   refine wpIn_seq_k fun K8 hK8=>?_
   refine sS ah fun K9 hK9=>?_
   go_wp2_with ((with_reducible refine bI ⟨?_⟩);refine fB h12 ah (aH (A:=pt b6 (.cells (bf y).toArray 214 (0,0)))) Tryz.underlying214 rfl au ?_)
   refine (Ot y h12).mono ?_
   rintro ee jH ⟨v,rfl,rfl,h13⟩
   clear h12
   by_cases hc:Rep.counts y=true
   ·have hlv:(fun s=>Rep.fK s (kv.take (i+1)))=fun s=>if s=y.place.seg then Rep.fK y.place.seg (kv.take i)+y.place.size else Rep.fK s (kv.take i):=by
     funext s
     rw [iM.out,Rep.Cm]
     by_cases e:s=y.place.seg
     ·subst e;simp [hc]
     ·simp only [hc,true_and,if_neg e];rw [if_neg (fun h=>e h.symm),Int.add_zero]
    have Hlv:=uQ hlv
    have hlk:=Jq y.place.seg (h13.pick (aO (aO (aO (aO aH)))))
    obtain ⟨pq,hup,jE⟩:=QZ y.place.seg (Rep.fK y.place.seg (kv.take i)+y.place.size) (h13.pick (aO (aO (aO (aO aH)))))
    obtain ⟨q1,q2⟩:=Rep.JA y.place.seg (b:=4294967296) aJ (kv.take i) fun p hp=>(dW.out p (List.mem_of_mem_take hp)).2
    have q3:(kv.take i).length≤13000000:=Nat.le_trans (List.length_take_le' i kv) qU.out
    have q4:=Hs.out
    have hwa:IntKind.i64.wrap (Rep.fK y.place.seg (kv.take i)+y.place.size)=Rep.fK y.place.seg (kv.take i)+y.place.size:=IntWalk.i64_in _ oQ
    have hwb:wrap64 (Rep.fK y.place.seg (kv.take i)+y.place.size)=Rep.fK y.place.seg (kv.take i)+y.place.size:=IntWalk.wrap64_in _ oQ
    clear q1 q2 q3 q4 hlv
    have e0:jH.cell? ⟨b4,0,none⟩=some (.map (some bm)):=h13.cellP (aO (aO (aO aH))) 0 rfl
    have e1:jH.cell? ⟨b6,1,none⟩=some (.int .i64 y.place.seg):=h13.cellP aH 1 rfl
    have e2:jH.cell? ⟨b6,3,none⟩=some (.int .i64 y.place.size):=h13.cellP aH 3 rfl
    rw [hc]
    clear h13 hc
    go_wp2_with fail
    refine wpIn_cond_true ah ?_
    refine sS ah fun K10 hK10=>?_
    go_wp2_with fail
    rw [← Hlv.out]at jE
    refine ⟨trivial,?_⟩
    have h15:Sat w0 pq (iw ps last pi uv tv::pt b2 (.cells #[ptr ps] 97 (0,0))::pt b4 (.cells #[.map (some bm)] 205 (0,0))::kH bm (fun s=>Rep.fK s (kv.take (i+1))) ::
     aZ pi (Tab.mapOf (Rep.puts (kv.take (i+1)))) (i+1)::aF 207 3 uv (us.flatMap gU)::pt b3 (.cells #[ptr pg] 216 (0,0))::(F++U')):=jE.sb
    rw [← jL.out]at h15
    exact h15
   ·have hlv:(fun s=>Rep.fK s (kv.take (i+1)))=fun s=>Rep.fK s (kv.take i):=by
     funext s
     rw [iM.out,Rep.Cm,if_neg (fun h=>hc h.1),Int.add_zero]
    have Hlv:=uQ hlv
    rw [Bool.not_eq_true]at hc
    rw [hc]
    clear hlv hc
    go_wp2_with fail
    refine wpIn_cond_false ah ?_
    refine wpIn_skip ?_
    go_wp2_with fail
    rw [← Hlv.out]at h13
    refine ⟨trivial,?_⟩
    have h15:Sat w0 jH (iw ps last pi uv tv::pt b2 (.cells #[ptr ps] 97 (0,0))::pt b4 (.cells #[.map (some bm)] 205 (0,0))::kH bm (fun s=>Rep.fK s (kv.take (i+1))) ::
     aZ pi (Tab.mapOf (Rep.puts (kv.take (i+1)))) (i+1)::aF 207 3 uv (us.flatMap gU)::pt b3 (.cells #[ptr pg] 216 (0,0))::(F++U')):=h13.sb
    rw [← jL.out]at h15
    exact h15
  ·have hb:(y.tag==0)=false:=by rw [beq_eq_false_iff_ne];exact ht
   have ql:=uQ (show Tab.mapOf (Rep.puts (kv.take (i+1)))=Tab.mapOf (Rep.puts (kv.take i)) by rw [iM.out,Rep.Tj,if_neg ht])
   clear ht
   go_wp2_with fail
   refine wpIn_cond_false ah ?_
   refine wpIn_skip ?_
   go_wp2_with fail
   rw [← ql.out]at h10
   have h11:=aZ.mono (Nat.le_succ i) (h10.pick (aO (aO (aO (aO (aO (aO aH)))))))
   have h12:Sat w0 w9 (pt b6 (.cells (bf y).toArray 214 (0,0))::pt b5 (.cells (ay k).toArray 30 (0,0))::pt b2 (.cells #[ptr ps] 97 (0,0))::pt b4 (.cells #[.map (some bm)] 205 (0,0))::kH bm (fun s=>Rep.fK s (kv.take i))::iw ps last pi uv tv ::
    aZ pi (Tab.mapOf (Rep.puts (kv.take (i+1)))) (i+1)::aF 207 3 uv (us.flatMap gU)::pt b3 (.cells #[ptr pg] 216 (0,0))::(F++U')):=h11.sb
   clear h10 h11 f0
   refine wpIn_seq_k fun K8 hK8=>?_
   refine sS ah fun K9 hK9=>?_
   go_wp2_with ((with_reducible refine bI ⟨?_⟩);refine fB h12 ah (aH (A:=pt b6 (.cells (bf y).toArray 214 (0,0)))) Tryz.underlying214 rfl au ?_)
   refine (Ot y h12).mono ?_
   rintro ee jH ⟨v,rfl,rfl,h13⟩
   clear h12
   by_cases hc:Rep.counts y=true
   ·have hlv:(fun s=>Rep.fK s (kv.take (i+1)))=fun s=>if s=y.place.seg then Rep.fK y.place.seg (kv.take i)+y.place.size else Rep.fK s (kv.take i):=by
     funext s
     rw [iM.out,Rep.Cm]
     by_cases e:s=y.place.seg
     ·subst e;simp [hc]
     ·simp only [hc,true_and,if_neg e];rw [if_neg (fun h=>e h.symm),Int.add_zero]
    have Hlv:=uQ hlv
    have hlk:=Jq y.place.seg (h13.pick (aO (aO (aO (aO aH)))))
    obtain ⟨pq,hup,jE⟩:=QZ y.place.seg (Rep.fK y.place.seg (kv.take i)+y.place.size) (h13.pick (aO (aO (aO (aO aH)))))
    obtain ⟨q1,q2⟩:=Rep.JA y.place.seg (b:=4294967296) aJ (kv.take i) fun p hp=>(dW.out p (List.mem_of_mem_take hp)).2
    have q3:(kv.take i).length≤13000000:=Nat.le_trans (List.length_take_le' i kv) qU.out
    have q4:=Hs.out
    have hwa:IntKind.i64.wrap (Rep.fK y.place.seg (kv.take i)+y.place.size)=Rep.fK y.place.seg (kv.take i)+y.place.size:=IntWalk.i64_in _ oQ
    have hwb:wrap64 (Rep.fK y.place.seg (kv.take i)+y.place.size)=Rep.fK y.place.seg (kv.take i)+y.place.size:=IntWalk.wrap64_in _ oQ
    clear q1 q2 q3 q4 hlv
    have e0:jH.cell? ⟨b4,0,none⟩=some (.map (some bm)):=h13.cellP (aO (aO (aO aH))) 0 rfl
    have e1:jH.cell? ⟨b6,1,none⟩=some (.int .i64 y.place.seg):=h13.cellP aH 1 rfl
    have e2:jH.cell? ⟨b6,3,none⟩=some (.int .i64 y.place.size):=h13.cellP aH 3 rfl
    rw [hc]
    clear h13 hc
    go_wp2_with fail
    refine wpIn_cond_true ah ?_
    refine sS ah fun K10 hK10=>?_
    go_wp2_with fail
    rw [← Hlv.out]at jE
    refine ⟨trivial,?_⟩
    have h15:Sat w0 pq (iw ps last pi uv tv::pt b2 (.cells #[ptr ps] 97 (0,0))::pt b4 (.cells #[.map (some bm)] 205 (0,0))::kH bm (fun s=>Rep.fK s (kv.take (i+1))) ::
     aZ pi (Tab.mapOf (Rep.puts (kv.take (i+1)))) (i+1)::aF 207 3 uv (us.flatMap gU)::pt b3 (.cells #[ptr pg] 216 (0,0))::(F++U')):=jE.sb
    rw [← jL.out]at h15
    exact h15
   ·have hlv:(fun s=>Rep.fK s (kv.take (i+1)))=fun s=>Rep.fK s (kv.take i):=by
     funext s
     rw [iM.out,Rep.Cm,if_neg (fun h=>hc h.1),Int.add_zero]
    have Hlv:=uQ hlv
    rw [Bool.not_eq_true]at hc
    rw [hc]
    clear hlv hc
    go_wp2_with fail
    refine wpIn_cond_false ah ?_
    refine wpIn_skip ?_
    go_wp2_with fail
    rw [← Hlv.out]at h13
    refine ⟨trivial,?_⟩
    have h15:Sat w0 jH (iw ps last pi uv tv::pt b2 (.cells #[ptr ps] 97 (0,0))::pt b4 (.cells #[.map (some bm)] 205 (0,0))::kH bm (fun s=>Rep.fK s (kv.take (i+1))) ::
     aZ pi (Tab.mapOf (Rep.puts (kv.take (i+1)))) (i+1)::aF 207 3 uv (us.flatMap gU)::pt b3 (.cells #[ptr pg] 216 (0,0))::(F++U')):=h13.sb
    rw [← jL.out]at h15
    exact h15
 ·intro D w8 h8
  have h9:Sat w0 w8 (eF pg m B::pt bA (.cells #[ptr pg] 211 (0,0))::iw ps last pi uv tv::pt b2 (.cells #[ptr ps] 97 (0,0))::pt b4 (.cells #[.map (some bm)] 205 (0,0))::kH bm (fun s=>Rep.fK s kv) ::
   aZ pi (Tab.mapOf (Rep.puts kv)) kv.length::aF 207 3 uv (us.flatMap gU)::pt b3 (.cells #[ptr pg] 216 (0,0))::(F++[pt D (.deferred (some []))])):=by
   have q:=h8
   unfold O7 at q
   rw [List.length_map,List.take_length]at q
   exact q
  have hA:Sat w0 w8 (pt D (.deferred (some []))::eF pg m B::pt bA (.cells #[ptr pg] 211 (0,0))::iw ps last pi uv tv::pt b2 (.cells #[ptr ps] 97 (0,0))::pt b4 (.cells #[.map (some bm)] 205 (0,0))::kH bm (fun s=>Rep.fK s kv) ::
   aZ pi (Tab.mapOf (Rep.puts kv)) kv.length::aF 207 3 uv (us.flatMap gU)::pt b3 (.cells #[ptr pg] 216 (0,0))::F):=
   Sat.zf (L:=eF pg m B::pt bA (.cells #[ptr pg] 211 (0,0))::iw ps last pi uv tv::pt b2 (.cells #[ptr ps] 97 (0,0))::pt b4 (.cells #[.map (some bm)] 205 (0,0))::kH bm (fun s=>Rep.fK s kv) ::
    aZ pi (Tab.mapOf (Rep.puts kv)) kv.length::aF 207 3 uv (us.flatMap gU)::pt b3 (.cells #[ptr pg] 216 (0,0))::F) (R:=[pt D (.deferred (some []))]) h9
  clear h7 h8 h9
  have hB2:Sat w0 w8 (aF 207 3 uv ((Rep.half kv us 0).flatMap gU)::iw ps last pi uv tv::pt b2 (.cells #[ptr ps] 97 (0,0))::pt b4 (.cells #[.map (some bm)] 205 (0,0))::kH bm (fun s=>Rep.fK s kv)::pt D (.deferred (some []))::aZ pi (Tab.mapOf (Rep.puts kv)) kv.length::eF pg m B::F):=hA.sb
  clear hA
  obtain ⟨ua,uc,rfl⟩:=jm (l:=Rep.half kv us 0) (f:=gU) (k:=3) (fun u _=>rfl) (Sat.rd hB2) aJ
  rw [Rep.IX]at hB2
  go_wp2_with ((with_reducible refine bI ⟨?_⟩);refine gK hB2 ah aY bH aj au ?_)
  go_loopg [42] us.length (fun g iq wr=>∃ i:Nat,g=us.length - i∧i≤us.length∧iq = .int .i64 i ∧
   Sat w0 wr (aF 207 3 (.slice ua us.length uc) ((Rep.half kv us i).flatMap gU)::iw ps last pi (.slice ua us.length uc) tv::pt b2 (.cells #[ptr ps] 97 (0,0))::pt b4 (.cells #[.map (some bm)] 205 (0,0))::kH bm (fun s=>Rep.fK s kv)::pt D (.deferred (some []))::aZ pi (Tab.mapOf (Rep.puts kv)) kv.length::eF pg m B::F))
  case atStart=>exact ⟨0,rfl,Nat.zero_le _,rfl,hB2⟩
  case round=>
   obtain ⟨i,rfl,hi,rfl,hS⟩:=hrel
   clear hB2
   by_cases hlt:i<us.length
   rotate_left
   ·obtain rfl:i=us.length:=by omega
    have c1:¬ (us.length:Int)<(us.length:Int):=oQ
    rw [Rep.Z']at hS
    clear hlt hi
    go_wp2_with fail
    refine Zb rfl (hS.pick (aO (aO (aO (aO (aO aH)))))) (fun w=>results_none rfl _ _ _) ?_
    intro w9 h9
    exact ⟨_,rfl,h9.sb⟩
   have c1:(i:Int)<(us.length:Int):=oQ
   have hwi:IntKind.i64.wrap ((i:Int)+1)=(i:Int)+1:=IntWalk.i64_in _ (by have:=Hu.out;omega)
   obtain ⟨u,hu⟩:∃ u,us[i]?=some u:=⟨_,List.getElem?_eq_getElem hlt⟩
   have hx:(Rep.half kv us i)[i]?=some u:=Rep.aac hu
   have l9:=uQ (CX (f:=gU) (k:=3) (o:=2) (x':=Rep.upd kv u) (vs:=[.int .i64 (Rep.fK u.seg kv)]) (fun u _=>rfl) hx ah (by show 2+1≤3;decide))
   rw [Rep.aad hu]at l9
   have hrl:((Rep.half kv us i).flatMap gU).length=3 * us.length:=by rw [jr (k:=3) (f:=gU) fun u _=>rfl,Rep.IX]
   obtain ⟨bk,off,c',hsv,hcell⟩:=mJ (f:=gU) (k:=3) (fun u _=>rfl) (Sat.rd hS) hx aJ
   rw [Rep.IX]at hsv
   cases hsv
   rcases Sat.jR hS with ⟨e,_⟩|⟨g',n',cap',cs',e,_⟩
   ·cases e
   obtain rfl:off=0:=by injection e with e1;injection e1 with e2;injection e2
   obtain ⟨g',rfl⟩:∃ g,g=bk:=⟨_,rfl⟩
   simp only [Nat.zero_add]at hcell
   have dH:=uQ hlt
   clear hlt hi hu hx
   go_wp2_with (first
    |((with_reducible refine bI ⟨?_⟩);refine jw (o:=i * 3) (gU u) ah hcell Tryz.underlying207 rfl au ?_)
    |(with_reducible apply dY))
   refine ⟨dS ahn hS rfl ?_⟩
   intro b8 w9 iT
   go_wp2_with ((with_reducible refine bU ⟨?_⟩);refine eH (gU u).toArray iT ah ah ah bJ au ah ?_;intro w10 bP)
   have hSd:=bP.drew
   have hG:w10.drew.cell? ⟨b2,0,none⟩=some (ptr ps)∧w10.drew.cell? ⟨ps,2,none⟩=some (.slice (some ⟨g',0,none⟩) us.length uc)∧w10.drew.cell? ⟨b4,0,none⟩=some (.map (some bm))∧w10.drew.cell? ⟨b8,0,none⟩=some (.int .i64 u.seg) ∧
     (Instr.lookup 205 (.map (some bm)) (.int .i64 u.seg) false).run Tryz.prog w10.drew = .ok (.int .i64 (Rep.fK u.seg kv)) w10.drew:=
    ⟨hSd.cellP (aO (aO (aO aH))) 0 rfl,hSd.cellP (aO (aO aH)) 2 rfl,hSd.cellP (aO (aO (aO (aO aH)))) 0 rfl,hSd.cellP aH 0 rfl,Jq u.seg (hSd.pick (aO (aO (aO (aO (aO aH))))))⟩
   clear hS iT hcell
   refine dh [9,10,11] (fun w'=>w'.cell? ⟨b2,0,none⟩=some (ptr ps)∧w'.cell? ⟨ps,2,none⟩=some (.slice (some ⟨g',0,none⟩) us.length uc)∧w'.cell? ⟨b4,0,none⟩=some (.map (some bm))∧w'.cell? ⟨b8,0,none⟩=some (.int .i64 u.seg)∧(Instr.lookup 205 (.map (some bm)) (.int .i64 u.seg) false).run Tryz.prog w' = .ok (.int .i64 (Rep.fK u.seg kv)) w') au ?_
   refine rt 0 (h:=?_)
   refine rP 1 ?_ (y:=dL)
   refine rP 2 ?_ (y:=cO)
   refine rt 3 (h:=?_)
   refine rP 4 ?_ (y:=aG)
   refine rt 5 (h:=?_)
   refine rP 6 ?_ (y:=cO)
   refine rt 7 (h:=?_)
   refine rt 8 (h:=?_)
   refine rP 9 ?_ (y:=dZ)
   refine rP 10 ?_ (y:=cO)
   clear hG
   refine bG 11 aj au (fun K' hK'=>?_)
   refine sF (vs:=[.int .i64 (Rep.fK u.seg kv)]) (i * 3+2) hSd aj aj rfl (fD bJ) (by rw [hrl];have:=dH.out;show i * 3+2+1≤_;omega) au ah ?_
   intro w12 gq
   refine hK' _ _ (.inl rfl) ?_
   clear hK' hSd bP
   refine cu au ?_
   rw [← l9.out]at gq
   go_wp2_with fail
   go_roundg (us.length - (i+1))
   case measure=>have:=dH.out;omega
   case rel=>exact ⟨i+1,rfl,dH.out,by first|rfl|go_num,gq.sb⟩
end
end Go.Proofs.YtlimfgdbfadohaaGreatDoor
namespace Go.Rep
open Go.ak (Bs gG)
def zA (l:List gG):Bool:=match l.getLast? with
 |some f=>f.e.tag==2
 |none=>false
abbrev Told:Type:=Int→Bs×Int
def split (bt:Told) (ns:List Int):Nat→Nat×Int
 |0=>(0,0)
 |i+1=>if (bt (ns.getD i 0)).2≠0 then (0,(bt (ns.getD i 0)).2) else if (ak.scan (bt (ns.getD i 0)).1).2.2=0∧zA (ak.scan (bt (ns.getD i 0)).1).1=true then (i+1,0) else split bt ns i
theorem KZ (bt:Told) (ns:List Int):∀ i,(split bt ns i).1≤i
 |0=>Nat.le_refl 0
 |i+1=>by
  have:=KZ bt ns i
  unfold split
  split
  ·exact Nat.zero_le _
  split
  ·exact Nat.le_refl _
  ·omega
structure eY where
 what:Int
 seg:Int
 at_:Int
def eY.zero:eY:=⟨0,0,0⟩
def fault (s:Int) (at_:Nat):eY:=if at_=0 then ⟨1,s,0⟩ else ⟨2,s,at_⟩
def bad (bt:Told):List Int→Option (eY×Int)
 |[]=>none
 |s::l=>if (bt s).2≠0 then some (eY.zero,(bt s).2) else if (ak.scan (bt s).1).2.2≠0 then some (fault s (ak.scan (bt s).1).2.1,13) else bad bt l
def rowsOf (bt:Told) (l:List Int):List Row:=l.flatMap fun s=>(ak.scan (bt s).1).1.map fun f=>(s,f)
def mQ (bt:Told) (l:List Int):List Use:=l.map fun s=>⟨s,((bt s).1.length:Int),0⟩
theorem DX (bt:Told):∀ (l k:List Int),bad bt l=none→bad bt (l++k)=bad bt k
 |[],_,_=>rfl
 |s::l,k,h=>by
  unfold bad at h
  rw [List.cons_append]
  show (if (bt s).2≠0 then _ else if (ak.scan (bt s).1).2.2≠0 then _ else bad bt (l++k))=_
  split at h
  ·cases h
  ·rename_i h1
   rw [if_neg h1]
   split at h
   ·cases h
   ·rename_i h2
    rw [if_neg h2]
    exact DX bt l k h
theorem Yd {bt:Told}{s:Int}{pre post:List Int} (hp:bad bt pre=none) (h:(bt s).2≠0):bad bt (pre++s::post)=some (eY.zero,(bt s).2):=by
 rw [DX bt _ _ hp];unfold bad;rw [if_pos h]
theorem Ye {bt:Told}{s:Int}{pre post:List Int} (hp:bad bt pre=none) (h:(bt s).2=0) (h2:(ak.scan (bt s).1).2.2≠0):bad bt (pre++s::post)=some (fault s (ak.scan (bt s).1).2.1,13):=by
 rw [DX bt _ _ hp];unfold bad;rw [if_neg (fun h3=>h3 h),if_pos h2]
theorem Yc {bt:Told}{s:Int}{pre:List Int} (hp:bad bt pre=none) (h:(bt s).2=0) (h2:(ak.scan (bt s).1).2.2=0):bad bt (pre++[s])=none:=by
 rw [DX bt _ _ hp];unfold bad;rw [if_neg (fun h3=>h3 h),if_neg (fun h3=>h3 h2)];rfl
theorem TU (bt:Told) (l:List Int) (s:Int):rowsOf bt (l++[s])=rowsOf bt l++(ak.scan (bt s).1).1.map fun f=>(s,f):=by
 unfold rowsOf;rw [List.flatMap_append,List.flatMap_cons,List.flatMap_nil,List.append_nil]
theorem agF (bt:Told) (l:List Int) (s:Int):mQ bt (l++[s])=mQ bt l++[⟨s,((bt s).1.length:Int),0⟩]:=by
 unfold mQ;rw [List.map_append];rfl
end Go.Rep
namespace Go.Proofs.YtlimfgdbfadohaaGreatDoor
open Go Go.Sl Go.aB Go.MapKept Go.RowKit
section
variable {w0 w:World}{F R:List aC}{v bv dv x lv:Value}
theorem agU {L:List aC}{b:Nat}{ops:Array Oper}{rest:List Oper}{a:Act}{Q:Exit→Act→World→Prop}{dst:Option Tmp}{t:TypeId}{pos:String}{after:Array Edge}{P:Program}{ty:TypeId}{x y:Operand}{vx vy:Value} (hx:a.eval x=vx) (hy:a.eval y=vy) (hr:∀ w,(Instr.sliceAt ty vx (some vy) none none).run P w = .ok v w)
  (h:wpList P ops Q rest (a.put dst v) w):wpList P ops Q (⟨dst,.slice ty x (some y) none none,t,pos,after,none⟩::rest) a w:=
 wpList_plain rfl fun _ hK=>by
  unfold Oper.wp execOp
  simp only [hx,hy,Option.map_some,Option.map_none,Sem.run_bind,hr,Result.andThen_ok,Sem.run_pure]
  exact hK _ _ h
theorem X8 {ops:Array Oper}{rest:List Oper}{a:Act}{Q:Exit→Act→World→Prop}{dst:Option Tmp}{t:TypeId}{pos:String}{after:Array Edge}{P:Program}{ty:TypeId}{x y:Operand} (h:Stop (wpList P ops Q (⟨dst,.slice ty x (some y) none none,t,pos,after,none⟩::rest) a w)):wpList P ops Q (⟨dst,.slice ty x (some y) none none,t,pos,after,none⟩::rest) a w:=h.out
set_option maxRecDepth 20000 in
theorem PS (l:Bs) (hr:Ro w0 F (bK 1 bv (ay l))) (hcap:kK bv) (hH:Ro w0 F Half) (hl:l.length≤268435456) (h:Sat w0 w F) :
  Calls Tryz.prog 123 #[bv] w (aI fun v w'=>∃ (fs:List (ak.gG×Value)) (ov:Value),fs.map (·.1)=(ak.scan l).1∧(∀ p∈fs,p.1.e.key.length=32)∧v = .tuple #[ov,.int .i64 (ak.scan l).2.1,errno (ak.scan l).2.2] ∧
   Sat w0 w' (aF 223 36 ov (lF fs)::pI fs::F)):=by
 obtain ⟨ba,bn,bc,rfl,hbn,hbc⟩:=hcap
 have hln:bn=l.length:=by
  obtain ⟨_,_,_,he,hl',_⟩:=hr w h
  cases he
  rw [aU,Nat.mul_one]at hl';exact hl'.symm
 subst hln
 have hcv:=Lib.run_convert_bytes_const (P:=Tryz.prog) w 27 5 #[.int .u8 72,.int .u8 79,.int .u8 65,.int .u8 82,.int .u8 68,.int .u8 83,.int .u8 69,.int .u8 71] 8 8 Tryz.underlying27 Tryz.underlying5
 have hB:Sat w0 (w.alloc (.cells #[.int .u8 72,.int .u8 79,.int .u8 65,.int .u8 82,.int .u8 68,.int .u8 83,.int .u8 69,.int .u8 71] 5 (8,9))) (mrow w.heap.size ak.rF::F):=h.alloc _
 simp only [List.size_toArray,List.length_cons,List.length_nil,Nat.zero_add,Nat.reduceAdd]at hcv
 have hmr:bK 1 (.slice (some ⟨w.heap.size,0,none⟩) 8 8) (ay ak.rF) (w.alloc (.cells #[.int .u8 72,.int .u8 79,.int .u8 65,.int .u8 82,.int .u8 68,.int .u8 83,.int .u8 69,.int .u8 71] 5 (8,9))):=by
  refine ⟨_,8,8,rfl,rfl,fun j x hj=>⟨_,rfl,?_⟩⟩
  rw [pG]
  have hjl:j<ak.rF.length:=by
   have:=(List.getElem?_eq_some_iff.1 hj).1
   rw [aU]at this;exact this
  have hx:=(EN (l:=ak.rF) hB hjl 0).1
  unfold ay at hj
  rw [List.getElem?_map,List.getElem?_eq_getElem hjl]at hj
  cases hj
  exact hx
 have hpre:=aaf l ak.rF ba l.length bc hbn hbc (hr _ hB.drop) _ 8 8 hmr
 have Hr:=uQ hr;have HH:=uQ hH;have Hl:=uQ hl;have uV:=uQ (show l.length≤bc∧bc≤9223372036854775807 from ⟨hbn,hbc⟩)
 have hF:=uQ hB.drop
 clear hr hH hl hbn hbc hB hmr
 cases hm:decide (l.take ak.rF.length=ak.rF)
 ·have Hf:=uQ (show ak.scan l=([],0,4) by
   unfold ak.scan
   have:¬ l.take 8=ak.rF:=of_decide_eq_false hm
   rw [if_neg this])
  rw [hm]at hpre
  clear hm
  go_enter Tryz.func123,Tryz.ntmps123
  go_wp2_with fail
  refine hpre.mono ?_
  rintro e w1 ⟨v,rfl,rfl,rfl⟩
  go_wp2
  go_ret3
  refine ⟨_,rfl,[],_,by rw [Hf.out];rfl,by simp,?_,Sat.fM.2 (Sat.emp.2 hF.out)⟩
  rw [Hf.out];rfl
 ·have hlm:l.take 8=ak.rF:=of_decide_eq_true hm
  have BN:8≤l.length:=by
   have:=congrArg List.length hlm
   rw [List.length_take]at this
   have h8:ak.rF.length=8:=rfl
   omega
  have Hf:=uQ (show ak.scan l=ak.pV l.length (l.drop 8) 8 by
   unfold ak.scan
   rw [if_pos hlm])
  have H8:=uQ BN
  rw [hm]at hpre
  obtain ⟨bk,off,rfl⟩:∃ bk off,ba=some ⟨bk,off,none⟩:=by
   obtain ⟨b',o',hb,_⟩:=iU (i:=0) (x:= .int .u8 (l[0]'oQ).toNat) (Hr.out _ hF.out) (by unfold ay;rw [List.getElem?_map,List.getElem?_eq_getElem oQ];rfl)
   exact ⟨_,_,hb⟩
  clear hm hlm BN
  go_enter Tryz.func123,Tryz.ntmps123
  go_wp2_with fail
  refine hpre.mono ?_
  rintro e w1 ⟨v,rfl,rfl,rfl⟩
  go_wp2_with fail
  go_loopg [6,5] (l.length - 8) (fun g aq ov wr=>∃ (at_:Nat) (fs:List (ak.gG×Value)),g=l.length - at_∧8≤at_∧at_≤l.length∧9 * fs.length≤at_∧aq = .int .i64 at_∧(∀ p∈fs,p.1.e.key.length=32) ∧
   (∃ k,l.length - at_≤k∧ak.scan l=(fs.map (·.1)++(ak.pV k (l.drop at_) at_).1,(ak.pV k (l.drop at_) at_).2)) ∧
   Sat w0 wr (aF 223 36 ov (lF fs)::pI fs::F))
  case atStart=>
   exact ⟨8,[],rfl,Nat.le_refl _,H8.out,Nat.zero_le _,rfl,by simp,⟨l.length,by omega,by rw [Hf.out];rfl⟩,Sat.fM.2 (Sat.emp.2 hF.out)⟩
  case round=>
   obtain ⟨at_,fs,rfl,h8,hat,hfl,rfl,hfk,⟨k,hk,hsc⟩,hS⟩:=hrel
   have Hk:=uQ hk;have AO:=uQ hsc;have xA:=uQ hfk;have nP:=uQ (show at_≤l.length∧8≤at_∧9 * fs.length≤at_ from ⟨hat,h8,hfl⟩)
   clear hk hsc hfk h8 hfl
   by_cases hlt:at_<l.length
   ·have c1:(at_:Int)<(l.length:Int):=by omega
    have c2:(at_:Int)≤(bc:Int):=by have:=uV.out;omega
    have c3:(l.length:Int)≤(bc:Int):=by have:=uV.out;omega
    have c4:(at_:Int)≤(l.length:Int):=oQ
    have c5:(0:Int)≤(at_:Int):=oQ
    have c6:¬ bc=at_:=by have:=uV.out;omega
    have hsl:∀ w,(Instr.sliceAt 27 (.slice (some ⟨bk,off,none⟩) l.length bc) (some (.int .i64 at_)) none none).run Tryz.prog w = .ok (.slice (some ⟨bk,off+at_,none⟩) (l.length - at_) (bc - at_)) w:=by
     intro w
     go_simp
    have hrd:=uQ (fun w hw=>Tv (Hr.out w hw) at_ l.length (bc - at_) hat (Nat.le_refl _))
    rw [List.take_length]at hrd
    have dH:=uQ hlt
    clear hlt hat
    go_wp2_with ((with_reducible refine X8 ⟨?_⟩);refine agU ah ah hsl ?_)
    refine (PO (l.drop at_) (Ro.os hrd.out) ⟨_,_,_,rfl,by have:=uV.out;omega,by have:=uV.out;omega⟩ (Ro.os HH.out) (by rw [List.length_drop];have:=Hl.out;omega) hS).mono ?_
    rintro ee w2 ⟨v,rfl,da,dc,rfl,hS2⟩
    have MR:=uQ (ak.KC (l.drop at_))
    obtain ⟨k,rfl⟩:∃ k',k=k'+1:=⟨k - 1,by have:=Hk.out;have:=dH.out;omega⟩
    have qW:=uQ (show l.drop at_≠[] by
     intro h0
     have:=congrArg List.length h0
     rw [List.length_drop]at this
     have:=dH.out
     simp only [List.length_nil]at *
     omega)
    by_cases hz:(ak.read (l.drop at_)).2.2=0
    ·have bY:=uQ (ak.adq hz)
     have GR:=uQ (show ak.scan l=(fs.map (·.1)++(⟨(ak.read (l.drop at_)).1,at_,(ak.read (l.drop at_)).2.1⟩::(ak.pV k ((l.drop at_).drop (ak.read (l.drop at_)).2.1) (at_+(ak.read (l.drop at_)).2.1)).1),(ak.pV k ((l.drop at_).drop (ak.read (l.drop at_)).2.1) (at_+(ak.read (l.drop at_)).2.1)).2) by
      rw [AO.out]
      simp only [ak.pV]
      rw [if_neg qW.out,if_neg (fun h=>h hz)])
     have hN:=bY.out.2.1
     rw [List.length_drop]at hN
     rw [List.drop_drop]at GR
     generalize ak.read (l.drop at_)=r at *
     obtain ⟨e,n,er⟩:=r
     obtain rfl:er=0:=hz
     have Hn:=uQ (show 9≤n∧n≤l.length - at_ from ⟨bY.out.1,hN⟩)
     have tK:=uQ (show e.key.length=32 from MR.out)
     clear hN AO MR bY
     try clear hz
     simp only at GR hS2
     have hw:IntKind.i64.wrap ((at_:Int)+(n:Int))=((at_+n:Nat):Int):=by
      rw [IntWalk.i64_in _ (by have:=Hn.out;have:=Hl.out;omega)];omega
     have hlen:(lF fs).length≤2147483648:=by
      rw [Py xA.out]
      have:=nP.out;have:=Hl.out;omega
     go_wp2_with (first
      |((with_reducible refine qY ⟨?_⟩);refine rV aQ ?_;intro bE wE hE)|((with_reducible refine oV ⟨?_⟩);first|(refine jy aQ ah ah fQ eP sQ ?_;intro wS hS)|(refine jy (e:=ak.zeroE) (da:=none) (dn:=0) (dc:=0) aQ ah ah rfl eP sQ ?_;intro wS hS))|((with_reducible refine AX ⟨?_⟩);refine Dn aQ ah aY fQ ?_)
      |((with_reducible refine G6 ⟨?_⟩);refine Lp ah ah ah (fun w=>aek e tK.out da _ dc at_ n w) ?_)
      |((with_reducible refine kU ⟨?_⟩);refine lu (e:=223) (sz:=36) (dX:=80) au aQ aj (cs:=kF ⟨e,at_,n⟩ (.slice da e.data.length dc)) rfl (xZ _ _ tK.out) bH ?_;intro bN wN hN)
      |((with_reducible refine jf ⟨?_⟩);refine lq 223 36 80 au aQ ah ah aY aY ((xZ _ _ tK.out).trans aJ) (Nat.le_refl 1) (Px _ _ _ _) hlen (by rw [xZ _ _ tK.out];decide) aJ rfl ?_;intro bA nA cA wA hA))
     go_roundg (l.length - (at_+n))
     case measure=>have:=Hn.out;omega
     case rel=>
      refine ⟨at_+n,fs++[(⟨e,at_,n⟩,.slice da e.data.length dc)],rfl,by have:=nP.out;omega,by have:=Hn.out;have:=nP.out;omega,by rw [List.length_append,List.length_singleton];have:=nP.out;have:=Hn.out;omega,by first|rfl|go_num,?_,⟨k,by have:=Hn.out;have:=Hk.out;omega,?_⟩,?_⟩
      ·intro p hp
       rw [List.mem_append]at hp
       rcases hp with hp|hp
       ·exact xA.out p hp
       ·rw [List.mem_singleton]at hp;subst hp;exact tK.out
      ·rw [GR.out,List.map_append,List.append_assoc];rfl
      ·rw [ZB,YN]
       have e9:lF [((⟨e,at_,n⟩:ak.gG),Value.slice da e.data.length dc)]=(kF ⟨e,at_,n⟩ (.slice da e.data.length dc)).toList:=by
        unfold lF kF;simp
       rw [e9]
       have h10:Sat w0 wA (aK (.slice da e.data.length dc) e.data::pI fs::aF 223 36 (.slice (some ⟨bA,0,none⟩) nA cA) (lF fs++(kF ⟨e,at_,n⟩ (.slice da e.data.length dc)).toList)::F):=hA.sb
       exact (Sat.star.2 h10).aP
    ·have hfin:=uQ (show ak.scan l=(fs.map (·.1),at_,(ak.read (l.drop at_)).2.2) by
      rw [AO.out]
      simp only [ak.pV]
      rw [if_neg qW.out,if_pos hz,List.append_nil])
     have c9:((ak.read (l.drop at_)).2.2==0)=false:=by rw [beq_eq_false_iff_ne];exact hz
     clear hz AO
     go_wp2_with (first|((with_reducible refine qY ⟨?_⟩);refine rV aQ ?_;intro bE wE hE)|((with_reducible refine oV ⟨?_⟩);first|(refine jy aQ ah ah fQ eP sQ ?_;intro wS hS)|(refine jy (e:=ak.zeroE) (da:=none) (dn:=0) (dc:=0) aQ ah ah rfl eP sQ ?_;intro wS hS))|((with_reducible refine AX ⟨?_⟩);refine Dn aQ ah aY fQ ?_))
     go_ret3
     refine ⟨_,rfl,fs,u5,by rw [hfin.out],xA.out,?_,Sat.sb aQ⟩
     rw [hfin.out];rfl
   ·have c1:¬ (at_:Int)<(l.length:Int):=by omega
    have hfin:=uQ (show ak.scan l=(fs.map (·.1),at_,0) by
     rw [AO.out,List.drop_of_length_le oQ]
     cases k <;> simp [ak.pV])
    clear hlt hat
    go_wp2
    go_ret3
    refine ⟨_,rfl,fs,by rw [hfin.out],fun a b hm=>xA.out _ hm,u5,?_,hS⟩
    rw [hfin.out];rfl
end
def fJ (f:Rep.eY):Array Value:=(.int .i64 f.what :: .int .i64 f.seg :: .int .i64 f.at_::(ay ak.zero32++[.string ByteArray.empty])).toArray
theorem tH:iH Tryz.prog 53=some (.agg (fJ Rep.eY.zero)):=by kernel_rfl
section
variable {w0 w:World}{F:List aC}{ov:Value}
theorem af4 {fs:List (ak.gG×Value)} (hk:∀ p∈fs,p.1.e.key.length=32) (h:bK 36 ov (lF fs) w){i:Nat}{p:ak.gG×Value} (hi:fs[i]?=some p) :
  ∃ bk off c,ov = .slice (some ⟨bk,off,none⟩) fs.length c∧w.cell? ⟨bk,off+i * 36,none⟩=some (.int .i64 p.1.e.tag):=by
 obtain ⟨bk,off,c,e,hc⟩:=mJ (f:=fun p:ak.gG×Value=>ug p.1 p.2) (k:=36) (fun p hp=>Bq p.1 p.2 (hk p hp)) h hi aJ
 exact ⟨bk,off,c,e,hc 0 _ rfl⟩
set_option maxRecDepth 20000 in
theorem Za (fs:List (ak.gG×Value)) (hk:∀ p∈fs,p.1.e.key.length=32) (hn:fs.length≤1073741824) (h:bK 36 ov (lF fs) w) :
  Calls Tryz.prog 152 #[ov] w (aI fun v w'=>v = .bool (Rep.zA (fs.map (·.1)))∧w=w'):=by
 cases hfs:fs.getLast? with
 |none=>
  obtain rfl:fs=[]:=List.getLast?_eq_none_iff.1 hfs
  obtain ⟨a,n,c,rfl,hl,_⟩:=h
  obtain rfl:n=0:=by have:=hl;simp [lF]at this;omega
  go_enter Tryz.func152,Tryz.ntmps152
  go_wp2_with fail
  go_ret
  exact ⟨_,rfl,rfl,rfl⟩
 |some p=>
  have hne:fs≠[]:=by intro e;rw [e]at hfs;cases hfs
  have hlen:0<fs.length:=List.length_pos_iff.2 hne
  have hi:fs[fs.length - 1]?=some p:=by rw [← List.getLast?_eq_getElem?];exact hfs
  obtain ⟨bk,off,c,rfl,hc⟩:=af4 hk h hi
  have He:=uQ (show Rep.zA (fs.map (·.1))=(p.1.e.tag==2) by unfold Rep.zA;rw [List.getLast?_map,hfs];rfl)
  rw [He.out]
  have c1:(fs.length:Int)>0:=oQ
  have c2:(0:Int)<(fs.length:Int):=oQ
  have w1:IntKind.i64.wrap ((fs.length:Int) - 1)=((fs.length - 1:Nat):Int):=by rw [IntWalk.i64_in _ oQ];omega
  have c3:(0:Int)≤((fs.length - 1:Nat):Int):=oQ
  have c4:((fs.length - 1:Nat):Int)<(fs.length:Int):=oQ
  clear hfs hne hlen hi h hk hn
  generalize fs.length - 1=j at *
  go_enter Tryz.func152,Tryz.ntmps152
  go_wp2_with fail
  go_ret
  exact ⟨_,rfl,rfl,rfl⟩
end
section
variable {w0 w:World}{F R:List aC}{p B B':Nat}{m:ak.Bs→Option Rep.dP}
theorem eF.mono (hB:B≤B') (h:Sat w0 w (eF p m B::R)):Sat w0 w (eF p m B'::R):=by
 obtain ⟨t,sv,⟨ok,is,hb⟩,hS⟩:=eF.open h
 exact eF.shut ok is (Nat.le_trans hb hB) hS
variable {da:Option Addr}{dn dc:Nat}
theorem ZA (f:ak.gG) (dv:Value) (hk:f.e.key.length=32):(kF f dv)[34]?=some (.int .i64 f.at_)∧(kF f dv)[35]?=some (.int .i64 f.size)∧∀ j v,(ay f.e.key)[j]?=some v→(kF f dv)[1+j]?=some v:=by
 have hl:(kW f.e dv).length=34:=O4 _ _ hk
 refine ⟨?_,?_,fun j v hj=>?_⟩
 ·show (kW f.e dv++_).toArray[34]?=_
  rw [List.getElem?_toArray,List.getElem?_append_right oQ,hl];rfl
 ·show (kW f.e dv++_).toArray[35]?=_
  rw [List.getElem?_toArray,List.getElem?_append_right oQ,hl];rfl
 ·have hj1:=(List.getElem?_eq_some_iff.1 hj).1
  have hj2:=hj1
  rw [aU,hk]at hj2
  show (kW f.e dv++_).toArray[1+j]?=_
  rw [List.getElem?_toArray,List.getElem?_append_left oQ,Nat.add_comm]
  show (ay f.e.key++[dv])[j]?=_
  rw [List.getElem?_append_left hj1];exact hj
set_option maxRecDepth 20000 in
theorem af6 (s:Int) (f:ak.gG) (hk:f.e.key.length=32) (hB:B≤13000000) (h:Sat w0 w (eF p m B::F)) :
  Calls Tryz.prog 125 #[.agg #[ptr p],.int .i64 s,.agg (kF f (.slice da dn dc))] w (aI fun _ w'=>Sat w0 w' (eF p (Rep.Dj m (s,f)) (B+1)::F)):=by
 have Hk:=uQ hk;have HB:=uQ hB
 have e0:(kF f (.slice da dn dc))[0]?=some (.int .i64 f.e.tag):=rfl
 obtain ⟨e34,e35,OT⟩:=ZA f (.slice da dn dc) hk
 clear hk hB
 go_enter Tryz.func125,Tryz.ntmps125
 go_wp2_with (with_reducible apply fH)
 refine ⟨fO h aj aj ?_⟩
 intro b3 w3 h3
 go_wp2_with (with_reducible apply fH)
 refine ⟨fO h3 aj aj ?_⟩
 intro b5 w5 h5
 clear h h3
 have h6:Sat w0 w5 (pt b5 (.cells (kF f (.slice da dn dc)) 223 (0,0))::pt b3 (.cells #[ptr p] 216 (0,0))::eF p m B::F):=h5
 clear h5
 have f0:w5.cell? ⟨b5,0,none⟩=some (.int .i64 f.e.tag):=h6.cellP aH 0 e0
 by_cases h2:f.e.tag=2
 ·have hb:(f.e.tag==2)=true:=beq_iff_eq.2 h2
  have Gx:=uQ (show Rep.Dj m (s,f)=m from if_pos h2)
  have h7:=uQ (eF.mono (Nat.le_succ B) (h6.sb:Sat w0 w5 (eF p m B::F)))
  clear h2 h6
  go_wp2_with fail
  (try simp only [Exit.inBlock,Exit.then]);refine bodyPost_ret (results_none rfl _ _ _) rfl ?_
  exact ⟨_,rfl,by rw [Gx.out];exact h7.out⟩
 have hb:(f.e.tag==2)=false:=by rw [beq_eq_false_iff_ne];exact h2
 have Gx:=uQ (show Rep.Dj m (s,f)=Tab.put m f.e.key ⟨f.e.tag,⟨s,f.at_,f.size⟩,Rep.mY m (s,f)⟩ from if_neg h2)
 clear h2
 have hkr:w5.rangeAt b5 1 (ay f.e.key):=fun j v hj=>h6.cellP aH (1+j) (OT j v hj)
 go_wp2_with (first
  |((with_reducible refine bI ⟨?_⟩);refine gK h6 ah aY bH aj au ?_)
  |((with_reducible refine bI ⟨?_⟩);refine jw (b:=b5) (o:=1) (ay f.e.key) ah hkr Tryz.underlying30 rfl (by rw [aU,Hk.out];kernel_rfl) ?_))
 refine (ZO (by have:=HB.out;omega) Hk.out (h6.sb:Sat w0 w5 (eF p m B::pt b5 (.cells (kF f (.slice da dn dc)) 223 (0,0))::pt b3 (.cells #[ptr p] 216 (0,0))::F))).mono ?_
 rintro ee w7 ⟨v,rfl,hv,h7⟩
 clear h6 hkr f0
 rcases hm:m f.e.key with _|a
 focus
  rw [hm,Option.getD_none,Option.isSome_none]at hv
  subst hv
  have hf0:Rep.xX m (s,f) = -1:=by unfold Rep.xX;show (match m f.e.key with|some a=>a.first|none=> -1) = -1;rw [hm]
  clear hm
  go_wp2_with (with_reducible apply dY)
  refine ⟨dS Dt h7 rfl ?_⟩
  intro b6 w8 h8
  go_wp2_with (first|((with_reducible refine bU ⟨?_⟩);refine eH (bf ⟨0,Seg.bF.zero,0⟩).toArray h8 ah ah ah bJ au ah ?_;intro w9 h9)|((with_reducible refine bU ⟨?_⟩);refine eX (cs':=#[.int .i64 0,.int .i64 0,.int .i64 0,.int .i64 0,.int .i64 (-1)]) h9 ah aj ah bJ (by show 4+1≤5;decide) au ah ?_;intro wB hB)|(with_reducible apply bI))
  refine ⟨?_⟩
  have f1:wB.cell? ⟨b5,0,none⟩=some (.int .i64 f.e.tag):=hB.cellP (aO (aO aH)) 0 e0
  have f2:wB.cell? ⟨b6,4,none⟩=some (.int .i64 (-1)):=hB.cellP aH 4 rfl
  clear h7 h8 h9
  by_cases hz:f.e.tag=0
  focus
   have hb0:(f.e.tag==0)=true:=beq_iff_eq.2 hz
   have hE:=uQ (show Rep.mY m (s,f)=s by unfold Rep.mY;rw [hf0];exact if_pos ⟨hz,by decide⟩)
   clear hz hf0
   go_wp2_with ((with_reducible refine bU ⟨?_⟩);refine eX (cs':=#[.int .i64 0,.int .i64 0,.int .i64 0,.int .i64 0,.int .i64 s]) hB ah aj ah bJ (by show 4+1≤5;decide) au ah ?_;intro wA hA)
   clear hB f1 f2
  rotate_left
  focus
   have hb0:(f.e.tag==0)=false:=by rw [beq_eq_false_iff_ne];exact hz
   have hE:=uQ (show Rep.mY m (s,f) = -1 by unfold Rep.mY;rw [hf0];exact if_neg (fun h=>hz h.1))
   clear hz hf0
   go_wp2_with fail
   clear f1 f2
   have hA:=hB
   clear hB
 rotate_left 2
 focus
  rw [hm,Option.getD_some,Option.isSome_some]at hv
  subst hv
  have hf0:Rep.xX m (s,f)=a.first:=by unfold Rep.xX;show (match m f.e.key with|some a=>a.first|none=> -1)=a.first;rw [hm]
  obtain ⟨at0,⟨Nj,Nk,Nl⟩,af⟩:=a
  have Qc:=h7
  clear h7 hm
  have h7:=Qc
  clear Qc
  go_wp2_with (with_reducible apply dY)
  refine ⟨dS Dt h7 rfl ?_⟩
  intro b6 w8 h8
  go_wp2_with (first|((with_reducible refine bU ⟨?_⟩);refine eH (bf ⟨at0,⟨Nj,Nk,Nl⟩,af⟩).toArray h8 ah ah ah bJ au ah ?_;intro w9 h9)|(with_reducible apply bI))
  refine ⟨?_⟩
  have f1:w9.cell? ⟨b5,0,none⟩=some (.int .i64 f.e.tag):=h9.cellP (aO (aO aH)) 0 e0
  have f2:w9.cell? ⟨b6,4,none⟩=some (.int .i64 af):=h9.cellP aH 4 rfl
  clear h7 h8
  by_cases hz:f.e.tag=0
  focus
   have hb0:(f.e.tag==0)=true:=beq_iff_eq.2 hz
   by_cases hf:af<0
   focus
    have hE:=uQ (show Rep.mY m (s,f)=s by unfold Rep.mY;rw [hf0];exact if_pos ⟨hz,hf⟩)
    clear hz hf0
    go_wp2_with ((with_reducible refine bU ⟨?_⟩);refine eX (cs':=#[.int .i64 at0,.int .i64 Nj,.int .i64 Nk,.int .i64 Nl,.int .i64 s]) h9 ah aj ah bJ (by show 4+1≤5;decide) au ah ?_;intro wA hA)
    clear h9 f1 f2
   rotate_left
   focus
    have hE:=uQ (show Rep.mY m (s,f)=af by unfold Rep.mY;rw [hf0];exact if_neg (fun h=>hf h.2))
    clear hz hf0
    go_wp2_with fail
    clear f1 f2
    have hA:=h9
    clear h9
  rotate_left 2
  focus
   have hb0:(f.e.tag==0)=false:=by rw [beq_eq_false_iff_ne];exact hz
   have hE:=uQ (show Rep.mY m (s,f)=af by unfold Rep.mY;rw [hf0];exact if_neg (fun h=>hz h.1))
   clear hz hf0
   go_wp2_with fail
   clear f1 f2
   have hA:=h9
   clear h9
 all_goals
  obtain ⟨q0,q1,q2,q3,q4,hE,iT⟩:∃ q0 q1 q2 q3 q4:Int,Hid (Rep.mY m (s,f)=q4)∧Sat w0 _ (pt b6 (.cells #[.int .i64 q0,.int .i64 q1,.int .i64 q2,.int .i64 q3,.int .i64 q4] 214 (0,0))::eF p m B::pt b5 (.cells (kF f (.slice da dn dc)) 223 (0,0))::pt b3 (.cells #[ptr p] 216 (0,0))::F):=⟨_,_,_,_,_,hE,hA.drew⟩
  clear hA
  have hG:=And.intro (iT.cellP (aO (aO aH)) 0 e0) (And.intro (iT.cellP (aO (aO aH)) 34 e34) (iT.cellP (aO (aO aH)) 35 e35))
  refine dh [11,12] (fun w'=>w'.cell? ⟨b5,0,none⟩=some (.int .i64 f.e.tag)∧w'.cell? ⟨b5,34,none⟩=some (.int .i64 f.at_)∧w'.cell? ⟨b5,35,none⟩=some (.int .i64 f.size)) au ?_
  refine rP 0 ?_ (y:=cO)
  refine rP 1 ?_ (y:=cO)
  refine rt 2 (h:=?_)
  refine rP 3 ?_ (y:=aG)
  refine rP 4 ?_ (y:=cO)
  refine rt 5 (h:=?_)
  refine rP 6 ?_ (y:=cO)
  refine rt 7 (h:=?_)
  refine rp 8 (hy:=(by (refine Or.inl ⟨by rfl,?_⟩;((intro wq;go_simp);first|done|exact wQ)))) (h:=?_)
  refine rP 9 ?_ (y:=cO)
  refine bG 10 aj au (fun K hK=>?_)
  refine jD (cs':=#[.int .i64 f.e.tag,.int .i64 q1,.int .i64 q2,.int .i64 q3,.int .i64 q4]) iT aj aj ah bJ (by show 0+1≤5;decide) au ah ?_
  intro w10 bP
  have hG2:=And.intro (bP.cellP (aO (aO aH)) 0 e0) (And.intro (bP.cellP (aO (aO aH)) 34 e34) (bP.cellP (aO (aO aH)) 35 e35))
  refine hK _ _ (.inr (.inl hG2)) ?_
  clear hK iT hG hG2
  refine rP 11 ?_ (y:=cO)
  refine bG 12 aj au (fun K hK=>?_)
  refine jD (cs':=#[.int .i64 f.e.tag,.int .i64 s,.int .i64 f.at_,.int .i64 f.size,.int .i64 q4]) bP aj aj ah bJ (by show 1+3≤5;decide) au ah ?_
  intro w12 gq
  refine hK _ _ (.inl rfl) ?_
  clear hK bP
  refine cu au ?_
  have nK:Sat w0 w12 (pt b6 (.cells (bf ⟨f.e.tag,⟨s,f.at_,f.size⟩,Rep.mY m (s,f)⟩).toArray 214 (0,0))::eF p m B::pt b5 (.cells (kF f (.slice da dn dc)) 223 (0,0))::pt b3 (.cells #[ptr p] 216 (0,0))::F):=by
   have:=gq
   rw [hE.out]
   exact this
  clear gq
  have hkr:w12.rangeAt b5 1 (ay f.e.key):=fun j v hj=>nK.cellP (aO (aO aH)) (1+j) (OT j v hj)
  go_wp2_with (first
   |((with_reducible refine bI ⟨?_⟩);refine jw (b:=b5) (o:=1) (ay f.e.key) ah hkr Tryz.underlying30 rfl (by rw [aU,Hk.out];kernel_rfl) ?_)
   |((with_reducible refine bI ⟨?_⟩);refine fB nK ah (aH (A:=pt b6 (.cells (bf ⟨f.e.tag,⟨s,f.at_,f.size⟩,Rep.mY m (s,f)⟩).toArray 214 (0,0)))) Tryz.underlying214 rfl au ?_)
   |((with_reducible refine bI ⟨?_⟩);refine gK nK ah aY bH aj au ?_))
  refine (ac3 (p:=p) (by have:=HB.out;omega) Hk.out ⟨f.e.tag,⟨s,f.at_,f.size⟩,Rep.mY m (s,f)⟩ (nK.sb:Sat w0 w12 (eF p m B::F))).mono ?_
  rintro ee pq ⟨v,rfl,x9⟩
  go_wp2_with fail
  go_end0
  exact ⟨_,rfl,by rw [Gx.out];exact x9⟩
end
section
variable {P:Program}{w0 w:World}{F R L:List aC}{b:Nat}{ops:Array Oper}{rest:List Oper}{a:Act}{Q:Exit→Act→World→Prop}
variable {dst:Option Tmp}{t ty T e:TypeId}{pos:String}{after:Array Edge}{x y:Operand}{cs:Array Value}{v:Value}{o n c k cap sz dX:Nat}{ad:Addr}{ys:List Value}
theorem Y2 (sz dX:Nat){K:Act→World→Prop}{E:Prop} (hb:oU P ty e sz dX=true) (hv:a.eval x = .slice (some ⟨b,0,none⟩) k cap) (hy:a.eval y = .slice (some ad) n c)
  (h:Sat w0 w (pt b (.cells cs T (0,0))::F)) (hl:ys.length=n * sz) (hnews:∀ j u,ys[j]?=some u→w.cell? (ad.add j)=some u) (h1:∀ u∈ys,u.oneCell'=true) (hroom:k+n≤cap) (hc:cap * sz≤cs.size)
  (hK:∀ w',Sat w0 w' (pt b (.cells (eG cs (k * sz) ys) T (0,0))::F)→K (a.put dst (.slice (some ⟨b,0,none⟩) (k+n) cap)) w') :
  if Region.wanted ⟨dst,.call { callee:= .builtin .append,args:=#[x,y],argTypes:=#[ty,ty] },t,pos,after,none⟩ (yielded ops a.tmps)=true then
   Oper.wp P ⟨dst,.call { callee:= .builtin .append,args:=#[x,y],argTypes:=#[ty,ty] },t,pos,after,none⟩ a w K Q else E:=by
 rw [if_pos (kR _ rfl)]
 obtain ⟨hu,i,z,hi,hz,e1,e2,e3,e4⟩:=vJ hb
 subst e1
 have hle:(k+n) * i.size≤cs.size:=Nat.le_trans (Nat.mul_le_mul_right _ hroom) hc
 rw [Nat.add_mul]at hle
 have hr:=run_append_room_cells (P:=P) (w:=w) ty t e i hu hi b 0 k cap ad n c ys hl hnews h1 hroom (fun j hj=>by
   rw [Nat.zero_add,h.cellAt (k * i.size+j) _ (Array.getElem?_eq_getElem (show k * i.size+j<cs.size by omega))];rfl) (fun j hj=>h.nY _)
 rw [Nat.zero_add]at hr
 unfold Oper.wp execOp
 simp only [resolve,invoke,builtin,Sem.run_bind,Sem.run_pure,Result.andThen_ok,List.map_toArray,List.map_cons,List.map_nil,hv,hy,hr]
 exact hK _ (Sat.sets ys (k * i.size) h)
theorem VG {vx vy:Value} (hx:a.eval x=vx) (hy:a.eval y=vy) (hr:∀ w,(Instr.sliceAt ty vx (some vy) none none).run P w = .ok v w):Yields P ops ⟨dst,.slice ty x (some y) none none,t,pos,after,none⟩ v a:=
 .inl ⟨kR _ rfl,fun w=>by simp only [execOp,hx,hy,Option.map_some,Option.map_none,Sem.run_bind,hr,Result.andThen_ok,Sem.run_pure]⟩
theorem aeo (sz:Nat){z:Value} (hu:P.underlying ty=some (.slice e)) (hz:iH P e=some z) (hzs:z.cells.size=sz) (h1:z.cells.toList.all (·.oneCell')=true){o:Nat} (hfit:o+sz≤cs.size)
  (h:Sat w0 w (pt b (.cells cs T (0,0))::F)) :
  ∃ w',(Builtin.clear_ #[ty] t #[.slice (some ⟨b,o,none⟩) 1 c]).run P w = .ok (.tuple #[]) w'∧Sat w0 w' (pt b (.cells (eG cs o z.cells.toList) T (0,0))::F):=by
 refine ⟨w.setCells b o z.cells.toList,?_,Sat.sets _ _ h⟩
 have hzc:(Builtin.zeroCells z.cells 1).toList=z.cells.toList:=by
  unfold Builtin.zeroCells
  simp only [Array.toList_map,Array.toList_range,Nat.one_mul]
  apply List.ext_getElem (by simp)
  intro i q1 q2
  have hi:i<z.cells.size:=by simpa using q2
  simp [Nat.mod_eq_of_lt hi,hi]
 have hst:=run_storeCells_cells (P:=P) b o z.cells.toList 0 w (fun j hj=>by
   rw [Nat.add_zero,h.cellAt (o+j) _ (Array.getElem?_eq_getElem (show o+j<cs.size by simp at hj;omega))];rfl) (fun j hj=>h.nY _) (fun u hu=>(List.all_eq_true.1 h1) u hu)
 simp only [Nat.add_zero]at hst
 simp [Builtin.clear_,run_underlying hu,Fq hz w,hzc,hst]
theorem agN (sz:Nat){z:Value} (hu:P.underlying ty=some (.slice e)) (hz:iH P e=some z) (hzs:z.cells.size=sz) (h1:z.cells.toList.all (·.oneCell')=true) (hx:a.eval x = .slice (some ⟨b,o,none⟩) 1 c) (hfit:o+sz≤cs.size)
  (h:Sat w0 w (pt b (.cells cs T (0,0))::F)) (hK:∀ w',Sat w0 w' (pt b (.cells (eG cs o z.cells.toList) T (0,0))::F)→wpList P ops Q rest (a.put dst (.tuple #[])) w') :
  wpList P ops Q (⟨dst,.call { callee:= .builtin .clear,args:=#[x],argTypes:=#[ty] },t,pos,after,none⟩::rest) a w:=by
 refine wpList_plain rfl fun _ hK'=>?_
 obtain ⟨w',hr,hS⟩:=aeo (P:=P) (t:=t) (c:=c) sz hu hz hzs h1 hfit h
 unfold Oper.wp execOp
 simp only [resolve,invoke,builtin,Sem.run_bind,Sem.run_pure,Result.andThen_ok,List.map_toArray,List.map_cons,List.map_nil,hx,hr]
 exact hK' _ _ (hK w' hS)
theorem XW (h:Stop (wpList P ops Q (⟨dst,.call { callee:= .builtin .clear,args:=#[x],argTypes:=#[ty] },t,pos,after,none⟩::rest) a w)):wpList P ops Q (⟨dst,.call { callee:= .builtin .clear,args:=#[x],argTypes:=#[ty] },t,pos,after,none⟩::rest) a w:=h.out
end
section
variable {w0 w:World}{F R:List aC}{v bv dv x lv:Value}{q p m K:Nat}
theorem YP {l:List (Int×Int)}{i cap:Nat}{cs:Array Value} (hi:i<l.length) (hn:l.length≤cap) (hc:cap * 2≤cs.size) (htk:cs.toList.take (l.length * 2)=dV l) (z:List Value) (hz:z.length=2) :
  (eG (eG cs (i * 2) (dV (l.drop (i+1)))) ((l.length - 1) * 2) z).toList.take ((l.length - 1) * 2)=dV (l.eraseIdx i):=by
 have hys:(dV (l.drop (i+1))).length=(l.length - (i+1)) * 2:=by rw [kD,List.length_drop,Nat.mul_comm]
 have hcl:cs.toList.length=cs.size:=by simp
 rw [lW _ _ _ (by rw [kZ];omega),List.append_assoc,List.take_append,List.take_take,Nat.min_self]
 have hp2:(eG cs (i * 2) (dV (l.drop (i+1)))).toList.length=cs.size:=(Array.length_toList).trans (kZ _ _ _)
 have h1:((eG cs (i * 2) (dV (l.drop (i+1)))).toList.take ((l.length - 1) * 2)).length=(l.length - 1) * 2:=by
  rw [List.length_take,hp2];omega
 rw [h1,Nat.sub_self,List.take_zero,List.append_nil,lW _ _ _ oQ,List.append_assoc]
 rw [List.take_append,List.length_take,hcl,Nat.min_eq_left oQ,List.take_of_length_le (l:=cs.toList.take (i * 2)) (by rw [List.length_take];omega)]
 rw [List.take_append,hys,List.take_of_length_le (l:=dV (l.drop (i+1))) oQ,show (l.length - 1) * 2 - i * 2 - (l.length - (i+1)) * 2=0 by omega,List.take_zero,List.append_nil]
 have h2:cs.toList.take (i * 2)=dV (l.take i):=by
  have:=congrArg (List.take (i * 2)) htk
  rw [List.take_take,Nat.min_eq_left oQ]at this
  rw [this]
  conv=>lhs;rw [← List.take_append_drop i l,yK]
  rw [List.take_append_of_le_length (by rw [kD,List.length_take];omega),List.take_of_length_le (by rw [kD,List.length_take];omega)]
 rw [h2,← yK,List.eraseIdx_eq_take_drop_succ]
theorem ae2 (l:List (Int×Int)) (i:Nat):dV (l.drop i)=(dV l).drop (i * 2):=by
 rcases Nat.lt_or_ge i l.length with h|h
 ·have h1:dV l=dV (l.take i)++dV (l.drop i):=by rw [← yK,List.take_append_drop]
  have h2:(dV (l.take i)).length=i * 2:=by rw [kD,List.length_take];omega
  rw [h1,← h2,List.drop_left]
 ·rw [List.drop_of_length_le h,List.drop_of_length_le (by rw [kD];omega)];rfl
theorem ae3 (l:List (Int×Int)):∀ u∈dV l,u.oneCell'=true:=by
 intro u hu
 unfold dV at hu
 rw [List.mem_flatMap]at hu
 obtain ⟨s,_,hs⟩:=hu
 simp only [List.mem_cons,List.not_mem_nil,or_false]at hs
 rcases hs with rfl|rfl <;> rfl
set_option maxRecDepth 20000 in
theorem aeZ (l:List (Int×Int)) (i:Nat) (hi:i<l.length) (hln:l.length≤1048576) (h:Sat w0 w (aF 159 2 lv (dV l)::F)) :
  Calls Tryz.prog 128 #[lv,.int .i64 i,.int .i64 ((i:Int)+1)] w (aI fun v w'=>∃ a n c,v = .slice a n c∧Sat w0 w' (aF 159 2 v (dV (l.eraseIdx i))::F)):=by
 rcases h.jR with ⟨rfl,hx,hF⟩|⟨b,n',cap,cs,rfl,hll,hn',hc,hcm,htk,hp⟩
 ·exfalso
  have:=congrArg List.length hx
  rw [kD]at this;simp at this;omega
 rw [kD]at hll
 obtain rfl:n'=l.length:=by omega
 have hcm':cap≤9223372036854775807:=hcm
 have uY:=uQ (YP hi hn' hc htk [.int .i64 0,.int .i64 0] rfl)
 have h0:(0:Int)≤(i:Int):=oQ
 have h1:(i:Int)≤(i:Int)+1:=oQ
 have h2:(i:Int)+1≤(l.length:Int):=oQ
 have h3:(l.length:Int)≤(cap:Int):=oQ
 have hne:((i:Int)==(i:Int)+1)=false:=by rw [beq_eq_false_iff_ne];omega
 have Hp:=uQ hp;have Wj:=uQ hcm;have Hc:=uQ hc;have Hn:=uQ hn';have iM:=uQ htk;have Hi:=uQ hi;have jX:=uQ hln
 clear hn' hc hcm htk hi h hll hln
 go_enter Tryz.func128,Tryz.ntmps128
 go_wp2_with fail
 obtain ⟨ad,had,hsl⟩:∃ ad:Addr,(i+1<l.length→ad=⟨b,(i+1) * 2,none⟩)∧∀ w,(Instr.sliceAt 149 (.slice (some ⟨b,0,none⟩) l.length cap) (some (.int .i64 ((i:Int)+1))) none none).run Tryz.prog w = .ok (.slice (some ad) (l.length - (i+1)) (cap - (i+1))) w:=by
  by_cases hce:cap=i+1
  ·refine ⟨⟨b,0,none⟩,fun hh=>by have:=Hn.out;omega,fun w=>?_⟩
   have h4:(0:Int)≤(i:Int)+1:=oQ
   have h5:((i:Int)+1).toNat=i+1:=oQ
   go_simp
  ·refine ⟨⟨b,(i+1) * 2,none⟩,fun _=>rfl,fun w=>?_⟩
   have h4:(0:Int)≤(i:Int)+1:=oQ
   have h5:((i:Int)+1).toNat=i+1:=oQ
   go_simp
 have hic:i≤cap:=oQ
 refine dh [] (fun _=>True) au ?_
 refine rP 0 ?_ (y:=aG)
 refine rP 1 ?_ (y:=aG)
 refine rp 2 (hy:=(by (refine Or.inl ⟨by rfl,?_⟩;((intro wq;go_simp);first|done|exact wQ)))) (h:=?_)
 refine rP 3 ?_ (y:=aG)
 refine rP 4 ?_ (y:=aG)
 refine rP 5 ?_ (y:=(VG aj aj hsl))
 refine bG 6 aj au (fun K hK=>?_)
 refine Y2 (e:=159) (w0:=w0) (b:=b) (cs:=cs) (k:=i) (ys:=dV (l.drop (i+1))) 2 16 au ah ah Hp.out.drew (by rw [kD,List.length_drop,Nat.mul_comm]) ?_ (ae3 _) (by have:=Hn.out;have:=Hi.out;omega) Hc.out ?_
 ·intro j u hj
  have hjl:=(List.getElem?_eq_some_iff.1 hj).1
  rw [kD,List.length_drop]at hjl
  rw [had oQ,Addr.add_mid]
  rw [ae2,List.getElem?_drop]at hj
  exact Hp.out.drew.cellAt _ _ (pY iM.out hj)
 intro w2 hS2
 refine hK _ _ (.inr (.inl trivial)) ?_
 clear hK K
 rw [show i+(l.length - (i+1))=l.length - 1 by have:=Hi.out;omega]
 have hj0:(0:Int)≤((l.length - 1:Nat):Int):=oQ
 have hj1:((l.length - 1:Nat):Int)≤(l.length:Int):=oQ
 have hj2:¬ cap=l.length - 1:=by have:=Hn.out;have:=Hi.out;omega
 have hj3:l.length - (l.length - 1)=1:=by have:=Hi.out;omega
 have hfit:=uQ (show (l.length - 1) * 2+2≤(eG cs (i * 2) (dV (l.drop (i+1)))).size by rw [kZ];have:=Hc.out;have:=Hn.out;have:=Hi.out;omega)
 have Hk:=uQ (show (dV (l.eraseIdx i)).length=(l.length - 1) * 2 by rw [kD,List.length_eraseIdx_of_lt Hi.out,Nat.mul_comm])
 generalize (l.length - 1)=N at *
 refine rP 7 ?_ (y:=dN)
 refine cu au ?_
 clear hp hsl had
 go_wp2_with ((with_reducible refine XW ⟨?_⟩);refine agN (o:=N * 2) 2 Tryz.underlying149 VJ ah ah ah hfit.out hS2 ?_;intro w3 hS3)
 go_ret
 refine ⟨_,rfl,_,_,_,rfl,?_⟩
 exact Sat.jV hS3 Hk.out (by have:=Hn.out;omega) (by rw [kZ,kZ];exact Hc.out) Wj.out uY.out
end
section
variable {w0 w:World}{F R:List aC}{v bv dv x lv:Value}{q p m K:Nat}{L:Seg.Log}{M:aB}{s:Int×Int}
set_option maxRecDepth 20000 in
theorem abG (hL:L.Ok) (hM:M.Ok K) (oW:K≤1099511627776) (n:Int) (h:Sat w0 w (aS p m L::aT m M::F)) :
  Calls Tryz.prog 79 #[ptr p,.int .i64 n] w (aI fun v w'=>v=errno (L.remove M n).2∧Sat w0 w' (aS p m (L.remove M n).1.1::aT m (L.remove M n).1.2::F)):=by
 obtain ⟨lv,hR⟩:=aS.qH h
 have hok:=sN hR
 have hf:=EI hL n h
 clear hR lv
 rcases Ir (L:=L) n with ⟨ha,hb⟩|⟨i,ha,hb⟩
 ·have bV:=uQ (show L.remove M n=((L,M),9) by unfold Seg.Log.remove;rw [ha])
  rw [hb]at hf
  clear ha hb hL h
  go_enter Tryz.func79,Tryz.ntmps79
  go_wp2_with fail
  refine hok.mono ?_
  rintro e w2 ⟨v,rfl,rfl,rfl⟩
  clear hok
  go_wp2_with fail
  refine hf.mono ?_
  rintro e w2 ⟨v,rfl,rfl,hS2⟩
  clear hf
  go_wp2
  go_ret
  rw [bV.out]
  exact ⟨_,rfl,rfl,hS2⟩
 ·rw [hb]at hf
  have hlt:=(Seg.Log.qx ha).1
  have Hg:=uQ (show L.remove M n=if (M.remove (Seg.name n)).2=0 then ((L.without i,(M.remove (Seg.name n)).1),0) else ((L,(M.remove (Seg.name n)).1),(M.remove (Seg.name n)).2) by unfold Seg.Log.remove;rw [ha])
  have hi0:(0:Int)≤(i:Int):=oQ
  have hd:decide ((i:Int)<0)=false:=decide_eq_false oQ
  have dH:=uQ hlt;have jX:=uQ hL.len;have MB:=uQ hL.fresh
  clear ha hb hL h hlt
  go_enter Tryz.func79,Tryz.ntmps79
  go_wp2_with fail
  refine hok.mono ?_
  rintro e w2 ⟨v,rfl,rfl,rfl⟩
  clear hok
  go_wp2_with fail
  refine hf.mono ?_
  rintro e w2 ⟨v,rfl,rfl,hS2⟩
  clear hf
  obtain ⟨lv,hR⟩:=aS.qH hS2
  clear hS2
  go_wp2_with fail
  refine dh [6,7] (fun w'=>w'.cell? ⟨p,0,none⟩=some (ptr m)) au ?_
  have hG:w2.drew.cell? ⟨p,0,none⟩=some (ptr m):=hR.drew.cellP aY 0 rfl
  refine rP 0 ?_ (y:=aG)
  refine rP 1 ?_ (y:=dL)
  refine rP 2 ?_ (y:=cO)
  refine rt 3 (h:=?_)
  refine rP 4 ?_ (y:=aG)
  clear hG
  refine bG 5 aj au (fun K hK=>?_)
  (refine vT au aj ?_)
  refine (Aa n hR.drew).mono ?_
  rintro e w3 ⟨v,rfl,rfl,hS3⟩
  refine hK _ _ (.inr (.inl (hS3.cellP aY 0 rfl))) ?_
  clear hK hR
  refine bG 6 aj au (fun K hK=>?_)
  (refine eU au aj aj ?_)
  refine (TG hM oW (Sat.pk aQ) _).mono ?_
  rintro e w4 ⟨v,rfl,rfl,hS4⟩
  refine hK _ _ (.inl rfl) ?_
  clear hK hS3
  refine rP 7 ?_ (y:=dN)
  refine cu au ?_
  clear hM
  generalize M.remove (Seg.name n)=B at *
  obtain ⟨M2,e2⟩:=B
  by_cases he:e2=0
  rotate_left
  ·have heb:(e2==0)=false:=beq_false_of_ne he
   have hfin:=uQ (Hg.out.trans (if_neg he))
   clear he
   go_wp2_with fail
   go_ret
   rw [hfin.out]
   exact ⟨_,rfl,rfl,aS.shut2 (lv:=lv) (Sat.sb hS4)⟩
  subst he
  have hfin:=uQ (Hg.out.trans (if_pos rfl))
  clear Hg
  obtain ⟨la,lc,rfl⟩:∃ la lc,lv = .slice la L.l.length lc:=by
   obtain ⟨a,n',c,rfl,hn,_⟩:=Sat.rd (hS4.pk (A:=aF 159 2 lv (dV L.l)))
   rw [kD]at hn
   exact ⟨a,c,by rw [show n'=L.l.length by omega]⟩
  have hw1:IntKind.i64.wrap ((L.l.length:Int) - 1)=(L.l.length:Int) - 1:=by rw [IntKind.wrap_i64];have:=jX.out;omega
  have hw2:IntKind.i64.wrap ((L.l.length:Int) - L.fresh)=(L.l.length:Int) - L.fresh:=by rw [IntKind.wrap_i64];have:=jX.out;have:=MB.out;omega
  have hw3:IntKind.i64.wrap (L.fresh - 1)=L.fresh - 1:=by rw [IntKind.wrap_i64];have:=jX.out;have:=MB.out;omega
  have hw4:IntKind.i64.wrap ((i:Int)+1)=(i:Int)+1:=by rw [IntKind.wrap_i64];have:=jX.out;have:=dH.out;omega
  have jA:=uQ (show (L.without i).on=if ((i:Int)==(L.l.length:Int) - 1)=true then false else L.on by
   unfold Seg.Log.without
   simp only [beq_iff_eq]
   have:=dH.out
   by_cases hh:i+1=L.l.length
   ·rw [if_pos hh,if_pos oQ]
   ·rw [if_neg hh,if_neg oQ])
  have pF:=uQ (show (L.without i).fresh=if decide ((L.l.length:Int) - L.fresh≤(i:Int))=true then L.fresh - 1 else L.fresh by
   unfold Seg.Log.without
   simp only [decide_eq_true_eq])
  have Hll:=uQ (show (L.without i).l=L.l.eraseIdx i∧(L.without i).limit=L.limit from ⟨rfl,rfl⟩)
  generalize L.without i=LW at *
  obtain ⟨ahz,Wl,Won,Wfr⟩:=LW
  obtain ⟨rfl,rfl⟩:=Hll.out
  obtain rfl:=jA.out
  obtain rfl:=pF.out
  clear jA pF Hll
  cases hb1:((i:Int)==(L.l.length:Int) - 1) <;> cases hb2:(decide ((L.l.length:Int) - L.fresh≤(i:Int)))
  all_goals
   go_wp2_with (first|((with_reducible refine bI ⟨?_⟩);refine gK aQ ah aY bH aj au ?_)|((with_reducible refine bU ⟨?_⟩);refine eX aQ ah aj pQ eP bH au ah ?_;intro wS hS))
   try have hS4:=hS
   have hG:(World.drew _).cell? ⟨p,2,none⟩=some (.slice la L.l.length lc)∧(World.drew _).cell? ⟨p,4,none⟩=some (.int .i64 L.fresh):=⟨hS4.drew.cellP aY 2 rfl,hS4.drew.cellP aY 4 rfl⟩
   refine dh [10,11] (fun w'=>w'.cell? ⟨p,2,none⟩=some (.slice la L.l.length lc)∧w'.cell? ⟨p,4,none⟩=some (.int .i64 L.fresh)) au ?_
   refine rP 0 ?_ (y:=aG)
   refine rP 1 ?_ (y:=aG)
   refine rP 2 ?_ (y:=dL)
   refine rP 3 ?_ (y:=cO)
   refine rt 4 (h:=?_)
   refine rP 5 ?_ (y:=(nG aj bT))
   refine rP 6 ?_ (y:=aG)
   refine rP 7 ?_ (y:=dL)
   refine rP 8 ?_ (y:=cO)
   refine rt 9 (h:=?_)
   refine rP 10 ?_ (y:=dB)
   refine rP 11 ?_ (y:=dB)
   refine cu au ?_
   clear hG
   have hS5:=hS4.drew
   clear hS4
   go_wp2_with (first|((with_reducible refine bI ⟨?_⟩);refine gK aQ ah aY bH aj au ?_)|((with_reducible refine bU ⟨?_⟩);refine eX aQ ah aj pQ eP bH au ah ?_;intro wS hS))
   refine (aeZ (lv:= .slice la L.l.length lc) L.l i dH.out jX.out (Sat.pk aQ)).mono ?_
   rintro e w6 ⟨v,rfl,da,dn,dc,rfl,hS6⟩
   go_wp2_with ((with_reducible refine bU ⟨?_⟩);refine eX aQ ah aj pQ eP bH au ah ?_;intro wS hS)
   go_ret
   rw [hfin.out,hb1,hb2]
   simp only [if_true,if_false,Bool.false_eq_true]
   exact ⟨_,rfl,rfl,aS.shut2 (lv:= .slice da dn dc) (Sat.sb hS)⟩
theorem TI {L:Seg.Log}{M:aB} (h:M.Ok K) (n:Int):(L.remove M n).1.2.Ok (K+1):=by
 unfold Seg.Log.remove
 split;· exact h.mono (Nat.le_succ K)
 split <;> exact h.remove _
end
end Go.Proofs.YtlimfgdbfadohaaGreatDoor
namespace Go.Seg
open Go.aB
def Log.read (L:Log) (M:aB) (q:bF):ak.aX×Int:=
 match L.at q.seg with
 |none=>(ak.zeroE,9)
 |some _=>
  if (M.read (name q.seg) q.at_ q.size).2≠0 then (ak.zeroE,(M.read (name q.seg) q.at_ q.size).2)
  else if (ak.read (M.read (name q.seg) q.at_ q.size).1).2.2≠0 then (ak.zeroE,(ak.read (M.read (name q.seg) q.at_ q.size).1).2.2)
  else if (ak.read (M.read (name q.seg) q.at_ q.size).1).2.1≠(M.read (name q.seg) q.at_ q.size).1.length then (ak.zeroE,4)
  else ((ak.read (M.read (name q.seg) q.at_ q.size).1).1,0)
theorem KC (l:Bs):(ak.read l).1.key.length=32:=by
 unfold ak.read
 dsimp only
 split;· rfl
 split;· rfl
 split;· rfl
 split;· rfl
 split
 ·rename_i h1 h2 h3 h4 h5
  simp only [List.length_take,List.length_drop]
  simp only [Nat.not_lt]at h3
  omega
 ·rfl
theorem adp {K:Nat}{M:aB} (h:M.Ok K) (s:ByteArray) (a n:Int):(M.read s a n).1.length≤16777216:=by
 unfold aB.read
 dsimp only
 split;· simp
 split;· simp
 rename_i i _
 have:=(h.file i).sH
 split;· simp
 split;· simp
 simp only [List.length_take,List.length_drop]
 omega
end Go.Seg
namespace Go.Proofs.YtlimfgdbfadohaaGreatDoor
open Go Go.Sl Go.aB Go.MapKept Go.RowKit
section
variable {w0 w:World}{F R:List aC}{v bv dv x lv:Value}{q p m K:Nat}{L:Seg.Log}{M:aB}{s:Int×Int}
set_option maxRecDepth 20000 in
theorem abE (hH:Ro w0 F Half) (hL:L.Ok) (hM:M.Ok K) (pl:Seg.bF) (h1 : -9223372036854775808≤pl.at_∧pl.at_≤9223372036854775807) (h2 : -9223372036854775808≤pl.size∧pl.size≤9223372036854775807) (h:Sat w0 w (aS p m L::aT m M::F)) :
  Calls Tryz.prog 64 #[ptr p,E5 pl] w (aI fun v w'=>∃ da dc,v = .tuple #[.agg (dI (L.read M pl).1 (.slice da (L.read M pl).1.data.length dc)),errno (L.read M pl).2] ∧
   Sat w0 w' (aK (.slice da (L.read M pl).1.data.length dc) (L.read M pl).1.data::aS p m L::aT m M::F)):=by
 have HH:=uQ hH
 rcases Ir (L:=L) pl.seg with ⟨ha,hb⟩|⟨i,ha,hb⟩
 ·have Hf:=uQ (show L.read M pl=(ak.zeroE,9) by unfold Seg.Log.read;rw [ha])
  have Hb:=uQ hb
  clear ha hb hH
  go_enter Tryz.func64,Tryz.ntmps64
  go_wp2_with (first|((with_reducible refine fH ⟨?_⟩);refine fO aQ aj aj ?_;intro bB wB hB)|((with_reducible refine qY ⟨?_⟩);refine rV aQ ?_;intro bE wE hE))
  obtain ⟨lv,hR⟩:=aS.qH (hE.pk (A:=aS p m L))
  refine (sN hR).mono ?_
  rintro e w2 ⟨v,rfl,rfl,rfl⟩
  clear hR lv
  have hf:=EI hL pl.seg (hE.pk (A:=aS p m L))
  rw [Hb.out]at hf
  go_wp2_with ((with_reducible refine bI ⟨?_⟩);refine gK aQ ah aY bH aj au ?_)
  refine hf.mono ?_
  rintro e w3 ⟨v,rfl,rfl,hS3⟩
  clear hf hE
  go_wp2_with (first|((with_reducible refine vN ⟨?_⟩);refine wZ ?_)|((with_reducible refine oV ⟨?_⟩);first|(refine jy aQ ah ah fQ eP sQ ?_;intro wS hS)|(refine jy (e:=ak.zeroE) (da:=none) (dn:=0) (dc:=0) aQ ah ah rfl eP sQ ?_;intro wS hS)))
  rw [Hf.out]
  exact ⟨rfl,_,CV rfl aQ ah aY rfl,_,rfl,none,0,rfl,Sat.fM.2 (Sat.sb hS)⟩
 ·have nT:=uQ (show L.read M pl=if (M.read (Seg.name pl.seg) pl.at_ pl.size).2≠0 then (ak.zeroE,(M.read (Seg.name pl.seg) pl.at_ pl.size).2)
   else if (ak.read (M.read (Seg.name pl.seg) pl.at_ pl.size).1).2.2≠0 then (ak.zeroE,(ak.read (M.read (Seg.name pl.seg) pl.at_ pl.size).1).2.2)
   else if (ak.read (M.read (Seg.name pl.seg) pl.at_ pl.size).1).2.1≠(M.read (Seg.name pl.seg) pl.at_ pl.size).1.length then (ak.zeroE,4)
   else ((ak.read (M.read (Seg.name pl.seg) pl.at_ pl.size).1).1,0) by unfold Seg.Log.read;rw [ha])
  have Hb:=uQ hb
  have Hrl:=uQ (Seg.adp hM (Seg.name pl.seg) pl.at_ pl.size)
  have hi0:(0:Int)≤(i:Int):=oQ
  have hd:decide ((i:Int)<0)=false:=decide_eq_false oQ
  clear ha hb hH
  go_enter Tryz.func64,Tryz.ntmps64
  go_wp2_with (first|((with_reducible refine fH ⟨?_⟩);refine fO aQ aj aj ?_;intro bB wB hB)|((with_reducible refine qY ⟨?_⟩);refine rV aQ ?_;intro bE wE hE))
  obtain ⟨lv,hR⟩:=aS.qH (hE.pk (A:=aS p m L))
  refine (sN hR).mono ?_
  rintro e w2 ⟨v,rfl,rfl,rfl⟩
  clear hR lv
  have hf:=EI hL pl.seg (hE.pk (A:=aS p m L))
  rw [Hb.out]at hf
  go_wp2_with ((with_reducible refine bI ⟨?_⟩);refine gK aQ ah aY bH aj au ?_)
  refine hf.mono ?_
  rintro e w3 ⟨v,rfl,rfl,hS3⟩
  clear hf hE
  obtain ⟨lv,hR⟩:=aS.qH hS3
  clear hS3
  go_wp2_with fail
  refine dh [11,12,13,14,15,16] (fun w'=>w'.cell? ⟨p,0,none⟩=some (ptr m)∧w'.cell? ⟨bB,0,none⟩=some (.int .i64 pl.seg)∧w'.cell? ⟨bB,1,none⟩=some (.int .i64 pl.at_)∧w'.cell? ⟨bB,2,none⟩=some (.int .i64 pl.size)) au ?_
  have hG:w3.drew.cell? ⟨p,0,none⟩=some (ptr m)∧w3.drew.cell? ⟨bB,0,none⟩=some (.int .i64 pl.seg)∧w3.drew.cell? ⟨bB,1,none⟩=some (.int .i64 pl.at_)∧w3.drew.cell? ⟨bB,2,none⟩=some (.int .i64 pl.size):=⟨hR.drew.cellP aY 0 rfl,hR.drew.cellP aY 0 rfl,hR.drew.cellP aY 1 rfl,hR.drew.cellP aY 2 rfl⟩
  refine rP 0 ?_ (y:=aG)
  refine rP 1 ?_ (y:=dL)
  refine rP 2 ?_ (y:=cO)
  refine rt 3 (h:=?_)
  refine rP 4 ?_ (y:=cO)
  refine rt 5 (h:=?_)
  refine rP 7 ?_ (y:=cO)
  refine rt 8 (h:=?_)
  refine rP 9 ?_ (y:=cO)
  refine rt 10 (h:=?_)
  clear hG
  refine bG 6 aj au (fun K hK=>?_)
  (refine vT au aj ?_)
  refine (Aa pl.seg hR.drew).mono ?_
  rintro e w4 ⟨v,rfl,rfl,hS4⟩
  refine hK _ _ (.inr (.inl ⟨hS4.cellP aY 0 rfl,hS4.cellP aY 0 rfl,hS4.cellP aY 1 rfl,hS4.cellP aY 2 rfl⟩)) ?_
  clear hK hR
  refine bG 11 aj au (fun K hK=>?_)
  (refine Y3 au aj aj aj aj ?_)
  refine (ado hM (Sat.pk aQ) _ pl.at_ pl.size h1 h2).mono ?_
  rintro e w5 ⟨v,rfl,bv,rfl,hS5⟩
  refine hK _ _ (.inl rfl) ?_
  clear hK hS4 h1 h2
  refine rP 12 ?_ (y:=aG)
  refine rP 13 ?_ (y:=(fC aj bT))
  refine rP 14 ?_ (y:=(fC aj bT))
  refine rP 15 ?_ (y:=dN)
  refine rP 16 ?_ (y:=dN)
  refine cu au ?_
  generalize M.read (Seg.name pl.seg) pl.at_ pl.size=RR at *
  obtain ⟨bs,e1⟩:=RR
  by_cases he:e1=0
  rotate_left
  ·have heb:(e1==0)=false:=beq_false_of_ne he
   have Hf:=uQ (nT.out.trans (if_pos he))
   clear he
   go_wp2_with (first|((with_reducible refine vN ⟨?_⟩);refine wZ ?_)|((with_reducible refine oV ⟨?_⟩);first|(refine jy aQ ah ah fQ eP sQ ?_;intro wS hS)|(refine jy (e:=ak.zeroE) (da:=none) (dn:=0) (dc:=0) aQ ah ah rfl eP sQ ?_;intro wS hS)))
   rw [Hf.out]
   exact ⟨rfl,_,CV rfl aQ ah aY rfl,_,rfl,none,0,rfl,Sat.fM.2 (Sat.pick (aS.shut2 (lv:=lv) (Sat.sb hS)) aH)⟩
  subst he
  have GH:=uQ (nT.out.trans (if_neg (fun h=>h rfl)))
  clear nT
  obtain ⟨ba,bn,bc,hbv,hbn,hbc,hbl⟩:=iY hS5
  subst hbv
  subst hbl
  have hfr:=PO bs (bv:= .slice ba bs.length bc) (Ro.op (Ro.aK _ _)) ⟨_,_,_,rfl,hbn,hbc⟩ (Ro.os HH.out) (by have:=Hrl.out;simp only at this;omega) hS5
  have hkey:=Seg.KC bs
  generalize ak.read bs=FR at *
  obtain ⟨fe,fn,e2⟩:=FR
  simp only at hfr hkey
  go_wp2_with fail
  refine hfr.mono ?_
  rintro e w6 ⟨v,rfl,da,dc,rfl,hS6⟩
  clear hfr hS5
  by_cases he2:e2=0
  rotate_left
  ·have heb:(e2==0)=false:=beq_false_of_ne he2
   have Hf:=uQ (GH.out.trans (if_pos he2))
   clear he2
   go_wp2_with (first|((with_reducible refine qY ⟨?_⟩);refine rV aQ ?_;intro bE wE hE)|((with_reducible refine vN ⟨?_⟩);refine wZ ?_)|((with_reducible refine oV ⟨?_⟩);first|(refine jy aQ ah ah fQ eP sQ ?_;intro wS hS)|(refine jy (e:=ak.zeroE) (da:=none) (dn:=0) (dc:=0) aQ ah ah rfl eP sQ ?_;intro wS hS)))
   rw [Hf.out]
   exact ⟨rfl,_,CV rfl aQ ah aY rfl,_,rfl,none,0,rfl,Sat.fM.2 (Sat.pick (aS.shut2 (lv:=lv) (Sat.sb hS)) aH)⟩
  subst he2
  have GI:=uQ (GH.out.trans (if_neg (fun h=>h rfl)))
  clear GH
  by_cases hn:fn=bs.length
  rotate_left
  ·have hnb:((fn:Int)==(bs.length:Int))=false:=by rw [beq_eq_false_iff_ne];omega
   have Hf:=uQ (GI.out.trans (if_pos hn))
   clear hn
   go_wp2_with (first|((with_reducible refine qY ⟨?_⟩);refine rV aQ ?_;intro bE wE hE)|((with_reducible refine vN ⟨?_⟩);refine wZ ?_)|((with_reducible refine oV ⟨?_⟩);first|(refine jy aQ ah ah fQ eP sQ ?_;intro wS hS)|(refine jy (e:=ak.zeroE) (da:=none) (dn:=0) (dc:=0) aQ ah ah rfl eP sQ ?_;intro wS hS)))
   rw [Hf.out]
   exact ⟨rfl,_,CV rfl aQ ah aY rfl,_,rfl,none,0,rfl,Sat.fM.2 (Sat.pick (aS.shut2 (lv:=lv) (Sat.sb hS)) aH)⟩
  have Hf:=uQ (GI.out.trans (if_neg (fun h=>h hn)))
  have hnb:((fn:Int)==(bs.length:Int))=true:=by rw [beq_iff_eq];omega
  clear hn GI
  go_wp2_with (first|((with_reducible refine qY ⟨?_⟩);refine rV aQ ?_;intro bE wE hE)|((with_reducible refine AX ⟨?_⟩);refine Dn aQ ah aY fQ ?_)|((with_reducible refine oV ⟨?_⟩);first|(refine jy aQ ah ah fQ eP sQ ?_;intro wS hS)|(refine jy (e:=ak.zeroE) (da:=none) (dn:=0) (dc:=0) aQ ah ah rfl eP sQ ?_;intro wS hS)))
  rw [Hf.out]
  exact ⟨rfl,_,CV rfl aQ ah aY hkey,_,rfl,da,dc,rfl,Sat.sub (aS.shut2 (lv:=lv) (Sat.sb hS)) iJ⟩
end
end Go.Proofs.YtlimfgdbfadohaaGreatDoor
namespace Go.Seg
open Go.aB
structure Alike (M M':aB):Prop where
 now:M'.now=M.now
 room:M'.room=M.room
 off:M'.off=M.off
 bytes:∀ p∈M.now,(M'.file p.2).now=(M.file p.2).now
theorem Alike.refl (M:aB):Alike M M:=⟨rfl,rfl,rfl,fun _ _=>rfl⟩
theorem Alike.trans {A B C:aB} (h:Alike A B) (k:Alike B C):Alike A C:=
 ⟨k.now.trans h.now,k.room.trans h.room,k.off.trans h.off,fun p hp=>(k.bytes p (by rw [h.now];exact hp)).trans (h.bytes p hp)⟩
theorem Alike.used {M M':aB} (h:Alike M M'):M'.used=M.used:=by
 unfold aB.used;rw [h.now]
 exact congrArg List.sum (List.map_congr_left fun p hp=>by rw [h.bytes p hp])
theorem Alike.all {M M':aB} (h:Alike M M') (s:ByteArray):M'.all s=M.all s:=by
 unfold aB.all;rw [h.off,h.now]
 cases hg:dD M.now s with
 |none=>rfl
 |some i=>simp only;rw [h.bytes (s,i) (kX hg)]
theorem afS {M:aB}{K:Nat} (ok:M.Ok K) (q:Quiet M) (s:ByteArray):Alike M (M.sync s).1:=by
 cases hg:dD M.now s with
 |none=>
  have:M.sync s=(M,9):=by unfold aB.sync;rw [q.off,hg];rfl
  rw [this];exact Alike.refl M
 |some i=>
  rw [q.UW hg]
  refine ⟨rfl,rfl,rfl,fun p hp=>?_⟩
  show ((M.ig i _).file p.2).now=_
  rw [Bj (ok.iO.ids _ (kX hg))]
  split
  ·rename_i e;rw [e];rfl
  ·rfl
theorem zh {M:aB} (q:Quiet M) (s:ByteArray) (b:Bs) :
  dD M.now s=none∧M.append s b=(M,9)∨∃ i,dD M.now s=some i∧((M.room:Int) - M.used<b.length∧M.append s b=(M,11)∨¬ (M.room:Int) - M.used<b.length∧M.append s b=(M.ig i ((M.file i).do ⟨false,0,b⟩),0)):=by
 unfold aB.append
 rw [q.off,q.step]
 cases hg:dD M.now s with
 |none=>exact .inl ⟨rfl,rfl⟩
 |some i=>
  refine .inr ⟨i,rfl,?_⟩
  simp only [Bool.false_eq_true,if_false,Bool.true_eq_false]
  by_cases h:(M.room:Int) - M.used<b.length
  ·exact .inl ⟨h,by rw [if_pos h]⟩
  ·exact .inr ⟨h,by rw [if_neg h]⟩
theorem Ec {M:aB} (q:Quiet M) (s:ByteArray) :
  (M.create s).2≠0∧(M.create s).2≠11∧(M.create s).1=M∨good s=true∧dD M.now s=none∧M.now.length<500∧M.create s=({ M with files:=M.files++[bD.new],now:=kY M.now s M.files.length,waits:=M.waits++[⟨ByteArray.empty,s,M.files.length⟩] },0):=by
 unfold aB.create
 rw [q.off,q.step]
 simp only [Bool.false_eq_true,if_false,Bool.true_eq_false]
 by_cases h1:good s=false
 ·rw [if_pos h1];exact .inl ⟨by simp,by simp,rfl⟩
 rw [if_neg h1]
 by_cases h2:(dD M.now s).isSome=true
 ·rw [if_pos h2];exact .inl ⟨by simp,by simp,rfl⟩
 rw [if_neg h2]
 by_cases h3:500≤M.now.length
 ·rw [if_pos h3];exact .inl ⟨by simp,by simp,rfl⟩
 rw [if_neg h3]
 have hg:good s=true:=by simpa using h1
 refine .inr ⟨hg,by simpa using h2,by omega,?_⟩
 unfold aB.link iW.on
 simp only [if_true,if_neg (vW hg)]
 rw [q.off]
theorem adw {M:aB} (q:Quiet M){s:ByteArray}{i:Nat} (h:dD M.now s=some i):M.remove s=(M.link ⟨s,ByteArray.empty,0⟩,0):=by
 unfold aB.remove
 rw [q.off,q.step,h]
 simp
theorem aci {l:Names}{s t:ByteArray} (h:s≠t):dD (gI l t) s=dD l s:=by
 induction l with
 |nil=>rfl
 |cons p l ih=>
  unfold dD gI at *
  rw [List.filter_cons]
  by_cases e:p.1=t
  ·rw [if_neg (by simp [bne,nU,e])]
   rw [ih,List.find?_cons]
   have:(p.1==s)=false:=by rw [nU,e];exact decide_eq_false (fun hh=>h hh.symm)
   rw [this]
  ·rw [if_pos (by simp [nU,bne,e]),List.find?_cons,List.find?_cons]
   cases (p.1==s)
   ·exact ih
   ·rfl
theorem ach {l:Names}{s t:ByteArray}{i:Nat} (h:s≠t):dD (qG l t i) s=dD l s:=by
 have ht:(t==s)=false:=by rw [nU];exact decide_eq_false (fun hh=>h hh.symm)
 induction l with
 |nil=>unfold qG dD;simp [ht]
 |cons p l ih=>
  unfold qG
  split
  ·unfold dD;rw [List.find?_cons,ht]
  ·unfold dD at *
   rw [List.find?_cons,List.find?_cons]
   cases (p.1==s)
   ·exact ih
   ·rfl
theorem JR {l:Names}{s t:ByteArray}{i:Nat} (h:s≠t):dD (kY l t i) s=dD l s:=by
 unfold kY;rw [ach h,aci h]
theorem JU {l:Names} (hs:mV l) (s:ByteArray) (i:Nat):dD (kY l s i) s=some i:=
 JQ (hs.put s i).keys ((wO l s i).mem_iff.2 (.head _))
theorem ab1 (l:Names) (s:ByteArray) (i:Nat):gI (qG l s i) s=gI l s:=by
 induction l with
 |nil=>unfold qG gI;simp [bne,nU]
 |cons p l ih=>
  unfold qG
  split
  ·unfold gI;rw [List.filter_cons,if_neg (by simp [bne,nU])]
  ·unfold gI at *
   rw [List.filter_cons,List.filter_cons,ih]
theorem ab3 {l:Names}{s:ByteArray}{i:Nat} (h:dD l s=none):gI (kY l s i) s=l:=by
 unfold kY;rw [ab1,yC h,yC h]
structure Calm (K room:Nat) (M:aB):Prop where
 ok:M.Ok K
 quiet:Quiet M
 dst:qg M
 used:M.used≤M.room
 room:M.room=room
section
variable {K r:Nat}{M:aB}{L:Log}
theorem Calm.mono {K':Nat} (h:Calm K r M) (hk:K≤K'):Calm K' r M:=⟨h.ok.mono hk,h.quiet,h.dst,h.used,h.room⟩
theorem Calm.new (K r:Nat) (h:r≤16777216):Calm K r (new r):=⟨aB.Ok.new K r h,Quiet.new r,List.nodup_nil,Nat.zero_le _,rfl⟩
theorem Calm.create (h:Calm K r M) (s:ByteArray):Calm (K+1) r (M.create s).1:=by
 have f:=(Fits.does h.ok h.dst h.used ⟨0,s,s,0,0,[],[]⟩ (show (0:Int)≠8 by decide) (show (0:Int)≠9 by decide)).1
 exact ⟨h.ok.create s,h.quiet.create s,f.dst,f.used,f.room.trans h.room⟩
theorem Calm.append (h:Calm K r M) (s:ByteArray) (b:Bs):Calm (K+1) r (M.append s b).1:=by
 have f:=(Fits.does h.ok h.dst h.used ⟨1,s,s,0,0,b,[]⟩ (show (1:Int)≠8 by decide) (show (1:Int)≠9 by decide)).1
 exact ⟨h.ok.append s b,h.quiet.append s b,f.dst,f.used,f.room.trans h.room⟩
theorem Calm.remove (h:Calm K r M) (s:ByteArray):Calm (K+1) r (M.remove s).1:=by
 have f:=(Fits.does h.ok h.dst h.used ⟨4,s,s,0,0,[],[]⟩ (show (4:Int)≠8 by decide) (show (4:Int)≠9 by decide)).1
 exact ⟨h.ok.remove s,h.quiet.remove s,f.dst,f.used,f.room.trans h.room⟩
theorem Calm.sync (h:Calm K r M) (s:ByteArray):Calm (K+1) r (M.sync s).1:=by
 have f:=(Fits.does h.ok h.dst h.used ⟨5,s,s,0,0,[],[]⟩ (show (5:Int)≠8 by decide) (show (5:Int)≠9 by decide)).1
 exact ⟨h.ok.sync s,h.quiet.sync s,f.dst,f.used,f.room.trans h.room⟩
def Has (L:Log) (M:aB):Prop:=∀ s∈L.l,∃ i,dD M.now (name s.1)=some i
structure Keeps (K r:Nat) (L:Log) (M:aB):Prop where
 log:L.Ok
 calm:Calm K r M
 has:Has L M
theorem Keeps.mono {K':Nat} (h:Keeps K r L M) (hk:K≤K'):Keeps K' r L M:=⟨h.log,h.calm.mono hk,h.has⟩
theorem Keeps.shut (h:Keeps K r L M):Keeps (K+1) r (L.shut M).1.1 (L.shut M).1.2∧(L.shut M).2=0∧(L.shut M).1.1.l=L.l∧(L.shut M).1.1.fresh=L.fresh∧Alike M (L.shut M).1.2:=by
 have iZ:=h.log.shut M
 cases hon:L.on with
 |false=>rw [Log.Uz M hon]at iZ ⊢;exact ⟨h.mono (Nat.le_succ K),rfl,rfl,rfl,Alike.refl M⟩
 |true=>
  obtain ⟨s,hl⟩:=h.log.last hon
  rw [Log.UA M hl hon]at iZ ⊢
  obtain ⟨i,hi⟩:=h.has s (List.mem_of_getLast? hl)
  have e:=h.calm.quiet.UW hi
  have e2:(M.sync (name s.1)).2=0:=by rw [e]
  have ha:=afS h.calm.ok h.calm.quiet (name s.1)
  have hc:=h.calm.sync (name s.1)
  rw [if_pos e2]at iZ ⊢
  exact ⟨⟨iZ,hc,fun t ht=>by rw [ha.now];exact h.has t ht⟩,rfl,rfl,rfl,ha⟩
theorem Keeps.jY (h:Keeps K r L M) (b:Bs) (hb:b.length≤16777216):Keeps (K+3) r (L.jY M b).1.1 (L.jY M b).1.2 ∧
  ((L.jY M b).2.2≠0→(L.jY M b).1.1=L∧Alike M (L.jY M b).1.2∧((L.jY M b).2.2=11→(M.room:Int) - M.used<b.length+8)):=by
 have iZ:=h.log.jY M b hb
 obtain ⟨n1,n2,n3⟩:=h.log.next
 unfold Log.jY at iZ ⊢
 by_cases h1:1048576≤L.next
 ·rw [if_pos h1]at iZ ⊢
  exact ⟨h.mono oQ,fun _=>⟨rfl,Alike.refl M,fun hh=>by cases hh⟩⟩
 rw [if_neg h1]at iZ ⊢
 have hc1:=h.calm.create (name L.next)
 rcases Ec h.calm.quiet (name L.next) with ⟨c1,c2,c3⟩|⟨hg,hn,hl,c⟩
 ·rw [if_pos c1]at iZ ⊢
  simp only [c3]at iZ hc1 ⊢
  exact ⟨h.mono oQ,fun _=>⟨by first|trivial|rfl,Alike.refl M,fun hh=>absurd hh c2⟩⟩
 have c0:(M.create (name L.next)).2=0:=by rw [c]
 rw [if_neg (fun hh=>hh c0)]at iZ ⊢
 have hself:dD (M.create (name L.next)).1.now (name L.next)=some M.files.length:=by
  rw [c];exact JU h.calm.ok.iO.qM _ _
 have BU:(M.create (name L.next)).1.used=M.used∧(M.create (name L.next)).1.room=M.room:=by
  refine ⟨?_,by rw [c]⟩
  rw [c]
  show ((kY M.now (name L.next) M.files.length).map fun p=>((M.files++[bD.new]).getD p.2 bD.new).now.length).sum=_
  rw [FK _ _ _ (fun j=>((M.files++[bD.new]).getD j bD.new).now.length),yC hn]
  have e0:((M.files++[bD.new]).getD M.files.length bD.new).now.length=0:=by simp [bD.new]
  rw [e0,Nat.zero_add]
  refine aB.FI (g:=fun j=>((M.files++[bD.new]).getD j bD.new).now.length) (h:=fun j=>(M.file j).now.length) fun p hp=>?_
  have:=h.calm.ok.iO.ids p hp
  simp only [aB.file,List.getD_eq_getElem?_getD]
  rw [List.getElem?_append_left this]
 have hhas:Has L (M.create (name L.next)).1:=fun s hs=>by
  obtain ⟨i,hi⟩:=h.has s hs
  rw [c]
  refine ⟨i,?_⟩
  show dD (kY M.now (name L.next) M.files.length) (name s.1)=_
  rw [JR (fun e=>by rw [e,hn]at hi;cases hi)]
  exact hi
 have hc2:=hc1.append (name L.next) (mag++b)
 rcases zh hc1.quiet (name L.next) (mag++b) with ⟨a1,_⟩|⟨i,a1,⟨a2,a3⟩|⟨a2,a3⟩⟩
 ·rw [hself]at a1;cases a1
 ·have e1:((M.create (name L.next)).1.append (name L.next) (mag++b)).2=11:=by rw [a3]
  have e1':¬ ((M.create (name L.next)).1.append (name L.next) (mag++b)).2=0:=by rw [e1];decide
  have e2:((M.create (name L.next)).1.append (name L.next) (mag++b)).1=(M.create (name L.next)).1:=by rw [a3]
  have e3:=adw hc1.quiet hself
  have hc3:=hc1.remove (name L.next)
  rw [if_neg e1',if_pos e1]at iZ ⊢
  rw [e2]at *
  have e4:((M.create (name L.next)).1.remove (name L.next)).2=0:=by rw [e3]
  have ha:Alike M ((M.create (name L.next)).1.remove (name L.next)).1:=by
   rw [e3,c]
   refine ⟨?_,rfl,rfl,fun p hp=>?_⟩
   ·show iW.on ⟨name L.next,ByteArray.empty,0⟩ (kY M.now (name L.next) M.files.length)=M.now
    unfold iW.on
    simp only [if_neg (vW hg),if_true]
    exact ab3 hn
   ·have:=h.calm.ok.iO.ids p hp
    simp only [aB.file,aB.link,List.getD_eq_getElem?_getD]
    rw [List.getElem?_append_left this]
  refine ⟨⟨iZ,hc3.mono oQ,fun s hs=>by rw [ha.now];exact h.has s hs⟩,fun _=>⟨rfl,ha,fun _=>?_⟩⟩
  rw [BU.1,BU.2,List.length_append]at a2
  have:mag.length=8:=rfl
  omega
 ·have e1:((M.create (name L.next)).1.append (name L.next) (mag++b)).2=0:=by rw [a3]
  rw [if_pos e1]at iZ ⊢
  refine ⟨⟨iZ,hc2.mono oQ,fun s hs=>?_⟩,fun hh=>absurd rfl hh⟩
  rw [a3]
  show ∃ j,dD (M.create (name L.next)).1.now (name s.1)=some j
  rcases List.mem_append.1 hs with hs|hs
  ·exact hhas s hs
  ·rw [List.mem_singleton.1 hs];exact ⟨_,hself⟩
theorem Keeps.begin (h:Keeps K r L M) (b:Bs) (hb:b.length≤16777216):Keeps (K+4) r (L.begin M b).1.1 (L.begin M b).1.2 ∧
  ((L.begin M b).2.2≠0→(L.begin M b).1.1.l=L.l∧(L.begin M b).1.1.fresh=L.fresh∧Alike M (L.begin M b).1.2∧((L.begin M b).2.2=11→(M.room:Int) - M.used<b.length+8)):=by
 obtain ⟨h1,h2,h3,h4,h5⟩:=h.shut
 unfold Log.begin
 rw [if_pos h2]
 obtain ⟨k1,k2⟩:=h1.jY b hb
 refine ⟨k1,fun hh=>?_⟩
 obtain ⟨k3,k4,k5⟩:=k2 hh
 rw [k3]
 exact ⟨h3,h4,h5.trans k4,fun e=>by rw [← h5.used,← h5.room];exact k5 e⟩
theorem Keeps.grow (h:Keeps K r L M) (b:Bs) (hf:L.fits b.length=true):Keeps (K+1) r (L.grow M b).1.1 (L.grow M b).1.2 ∧
  ((L.grow M b).2.2≠0→(L.grow M b).1.1=L∧Alike M (L.grow M b).1.2∧((L.grow M b).2.2=11→(M.room:Int) - M.used<b.length)):=by
 have iZ:=h.log.grow M b hf
 unfold Log.grow at iZ ⊢
 cases hl:L.l.getLast? with
 |none=>exact ⟨h.mono (Nat.le_succ K),fun hh=>absurd rfl hh⟩
 |some s=>
  rw [hl]at iZ
  simp only at iZ ⊢
  have hc:=h.calm.append (name s.1) b
  obtain ⟨j,hj⟩:=h.has s (List.mem_of_getLast? hl)
  rcases zh h.calm.quiet (name s.1) b with ⟨a1,_⟩|⟨i,a1,⟨a2,a3⟩|⟨a2,a3⟩⟩
  ·rw [hj]at a1;cases a1
  ·rw [a3]at iZ hc ⊢
   rw [if_neg (show ¬ ((M,(11:Int)).2=0) from (by simp))]at iZ ⊢
   exact ⟨h.mono (Nat.le_succ K),fun _=>⟨rfl,Alike.refl M,fun _=>a2⟩⟩
  ·rw [a3]at iZ hc ⊢
   rw [if_pos rfl]at iZ ⊢
   refine ⟨⟨iZ,hc,fun t ht=>?_⟩,fun hh=>absurd rfl hh⟩
   show ∃ j,dD M.now (name t.1)=some j
   rcases List.mem_append.1 ht with ht|ht
   ·exact h.has t ((List.dropLast_subset _ ht))
   ·rw [List.mem_singleton.1 ht];exact ⟨j,hj⟩
theorem KW {x:ak.aX} (h:(ak.encode x).2=0) (hk:x.key.length=32):(ak.encode x).1.length=ak.size x:=by
 unfold ak.encode at *
 split at h
 ·rename_i hc;exact absurd h hc
 ·rename_i hc
  rw [if_neg hc]
  unfold ak.body ak.size
  simp only [List.length_append,ak.gW,List.length_singleton,if_neg hc]
  split
  ·rename_i ht
   have:x.data.length=0:=by
    simp only [Decidable.not_not]at hc
    unfold ak.check at hc
    rw [ht]at hc
    simp only [show ¬ ((2:Int)=0) by decide,if_false,if_true]at hc
    split at hc
    ·cases hc
    split at hc
    ·cases hc
    omega
   simp;omega
  ·omega
theorem Keeps.append (h:Keeps K r L M) (x:ak.aX) (hk:x.key.length=32):Keeps (K+4) r (L.append M x).1.1 (L.append M x).1.2 ∧
  ((L.append M x).2.2≠0→(L.append M x).1.1.l=L.l∧(L.append M x).1.1.fresh=L.fresh∧Alike M (L.append M x).1.2∧((L.append M x).2.2=11→(M.room:Int) - M.used<ak.size x+8)):=by
 have hl:=encode_len x hk
 by_cases h1:(ak.encode x).2=0
 ·have hz:=KW h1 hk
  cases hf:L.fits (ak.encode x).1.length with
  |true=>
   rw [Log.DU h1 hf]
   obtain ⟨k1,k2⟩:=h.grow _ hf
   refine ⟨k1.mono oQ,fun hh=>?_⟩
   obtain ⟨k3,k4,k5⟩:=k2 hh
   rw [k3]
   exact ⟨rfl,rfl,k4,fun e=>by have:=k5 e;omega⟩
  |false=>
   rw [Log.DT h1 hf]
   obtain ⟨k1,k2⟩:=h.begin _ (by omega:(ak.encode x).1.length≤16777216)
   exact ⟨k1,fun hh=>by rw [← hz];exact k2 hh⟩
 ·rw [Log.Nq h1]
  refine ⟨h.mono oQ,fun _=>⟨rfl,rfl,Alike.refl M,fun e=>?_⟩⟩
  exfalso
  have e':(ak.encode x).2=11:=e
  unfold ak.encode at e'
  split at e'
  ·simp only at e'
   unfold ak.check at e'
   repeat' split at e'
   all_goals cases e'
  ·cases e'
end
end Go.Seg
namespace Go.Seg
theorem SG (n:Int) (h1:0≤n) (h2:n<1048576):number (name n)=(n,true):=by
 unfold name
 rw [if_neg oQ]
 unfold number
 have hl:(lead++iI n.toNat 8).length=12:=by rw [List.length_append,zq];rfl
 have hd:(lead++iI n.toNat 8).drop 4=iI n.toNat 8:=rfl
 have ht:(lead++iI n.toNat 8).take 4=lead:=rfl
 have hv:=agG 8 n.toNat oQ
 simp only [hl,hd,ht,OD,hv,true_and]
 rw [if_pos oQ]
 simp only [Prod.mk.injEq,and_true]
 omega
end Go.Seg
namespace Go.Proofs.YtlimfgdbfadohaaGreatDoor
open Go Go.Sl Go.aB Go.MapKept Go.RowKit
section
variable {w0 w:World}{F:List aC}
end
end Go.Proofs.YtlimfgdbfadohaaGreatDoor
namespace Go.ak
theorem PN {l:Bs} (h:l.length=4):∃ c0 c1 c2 c3,l=[c0,c1,c2,c3]:=by
 match l,h with
 |[c0,c1,c2,c3],_=>exact ⟨c0,c1,c2,c3,rfl⟩
theorem OY {x:aX} (h:(encode x).2=0):check x=0∧(encode x).1=le (crc (body x)) 4++body x:=by
 unfold encode at *
 split at h
 ·rename_i hc;exact absurd h hc
 ·rename_i hc
  rw [if_neg hc]
  exact ⟨by simpa using hc,rfl⟩
theorem Ea {x:aX} (h:check x=0):x.tag=0∧x.data.length≤16384∨x.tag=2∧x.key=zero32∧x.data=[]∨x.tag=1∧x.data=[]:=by
 unfold check at h
 split at h
 ·rename_i t;split at h
  ·cases h
  ·exact .inl ⟨t,by omega⟩
 split at h
 ·rename_i t
  split at h
  ·cases h
  rename_i hk
  split at h
  ·cases h
  rename_i hd
  exact .inr (.inl ⟨t,by simpa using hk,List.eq_nil_of_length_eq_zero oQ⟩)
 split at h
 ·rename_i t
  split at h
  ·cases h
  rename_i hd
  exact .inr (.inr ⟨t,List.eq_nil_of_length_eq_zero oQ⟩)
 ·cases h
theorem TD {x:aX} (h:(encode x).2=0) (hk:x.key.length=32) (rest:Bs):read ((encode x).1++rest)=(x,(encode x).1.length,0):=by
 have hz:=Seg.KW h hk
 obtain ⟨hc,he⟩:=OY h
 have hs:size x=9∨41≤size x:=by
  unfold size
  rw [if_neg (by simp [hc])]
  by_cases ht:x.tag=2
  ·rw [if_pos ht];omega
  ·rw [if_neg ht];omega
 have hs2:size x≤16425:=by
  rcases Ea hc with ⟨t,d⟩|⟨t,k,d⟩|⟨t,d⟩
  all_goals
   unfold size
   rw [if_neg (by simp [hc])]
   by_cases ht:x.tag=2
   ·rw [if_pos ht];omega
   ·rw [if_neg ht]
    first|omega|(rw [d];simp)
 obtain ⟨c0,c1,c2,c3,hC⟩:=PN (gW (crc (body x)) 4)
 obtain ⟨s0,s1,s2,s3,hS⟩:=PN (gW (size x) 4)
 have hnum:num [s0,s1,s2,s3]=size x:=by rw [← hS];exact CG 4 _ oQ
 have yg:num [c0,c1,c2,c3]=crc (body x):=by rw [← hC];exact CG 4 _ (Ij _)
 have hb:body x=[s0,s1,s2,s3]++(UInt8.ofNat x.tag.toNat::((if x.tag=2 then [] else x.key)++x.data)):=by unfold body;rw [hS];simp
 have hE:(encode x).1=c0::c1::c2::c3::s0::s1::s2::s3::UInt8.ofNat x.tag.toNat::((if x.tag=2 then [] else x.key)++x.data):=by rw [he,hC,hb];rfl
 have hlen:((if x.tag=2 then [] else x.key)++x.data).length+9=size x:=by rw [← hz,hE];simp
 have hT:UInt8.ofNat x.tag.toNat=0∧x.tag=0∧41≤size x∨UInt8.ofNat x.tag.toNat=1∧x.tag=1∧size x=41∨UInt8.ofNat x.tag.toNat=2∧x.tag=2∧size x=9:=by
  rcases Ea hc with ⟨t,d⟩|⟨t,k,d⟩|⟨t,d⟩
  ·left;rw [t];refine ⟨rfl,rfl,?_⟩
   unfold size;rw [if_neg (by simp [hc]),if_neg (by rw [t];decide)];omega
  ·right;right;rw [t];refine ⟨rfl,rfl,?_⟩
   unfold size;rw [if_neg (by simp [hc]),if_pos t]
  ·right;left;rw [t];refine ⟨rfl,rfl,?_⟩
   unfold size;rw [if_neg (by simp [hc]),if_neg (by rw [t];decide),d];rfl
 have hfit:fits (UInt8.ofNat x.tag.toNat) (size x)=true:=by
  rcases hT with ⟨a,_,b⟩|⟨a,_,b⟩|⟨a,_,b⟩
  ·rw [a];unfold fits;rw [if_pos rfl,decide_eq_true_eq];omega
  ·rw [a];unfold fits;rw [if_neg aJ,if_pos rfl,decide_eq_true_eq];omega
  ·rw [a];unfold fits;rw [if_neg aJ,if_neg aJ,if_pos rfl,decide_eq_true_eq];omega
 generalize hP:(if x.tag=2 then [] else x.key)++x.data=P at *
 generalize hG:UInt8.ofNat x.tag.toNat=T at *
 have hL:((encode x).1++rest)=c0::c1::c2::c3::s0::s1::s2::s3::T::(P++rest):=by rw [hE];rfl
 have hll:(c0::c1::c2::c3::s0::s1::s2::s3::T::(P++rest)).length=size x+rest.length:=by simp;omega
 have htk:(c0::c1::c2::c3::s0::s1::s2::s3::T::(P++rest)).take (size x)=c0::c1::c2::c3::s0::s1::s2::s3::T::P:=by
  have:c0::c1::c2::c3::s0::s1::s2::s3::T::(P++rest)=(c0::c1::c2::c3::s0::s1::s2::s3::T::P)++rest:=rfl
  rw [this,List.take_append_of_le_length (by simp;omega),List.take_of_length_le (by simp;omega)]
 rw [hz,hL]
 unfold read
 dsimp only
 rw [if_neg (by rw [hll];omega)]
 have hn:num (((c0::c1::c2::c3::s0::s1::s2::s3::T::(P++rest)).drop 4).take 4)=size x:=hnum
 have h8:(c0::c1::c2::c3::s0::s1::s2::s3::T::(P++rest)).getD 8 0=T:=rfl
 have h4:num ((c0::c1::c2::c3::s0::s1::s2::s3::T::(P++rest)).take 4)=crc (body x):=yg
 rw [hn,h8,hfit,if_neg aJ,if_neg (by rw [hll];omega),htk,h4]
 have hdr:(c0::c1::c2::c3::s0::s1::s2::s3::T::P).drop 4=body x:=by rw [hb];rfl
 rw [hdr,if_neg (by simp)]
 have h9:(c0::c1::c2::c3::s0::s1::s2::s3::T::(P++rest)).drop 9=P++rest:=rfl
 have qZ:(c0::c1::c2::c3::s0::s1::s2::s3::T::P).drop 41=P.drop 32:=rfl
 rw [h9,qZ]
 rcases hT with ⟨a,t,b⟩|⟨a,t,b⟩|⟨a,t,b⟩
 ·rw [if_pos b]
  rw [if_neg (by rw [t];decide)]at hP
  have e1:(P++rest).take 32=x.key:=by rw [← hP,List.append_assoc,List.take_append_of_le_length oQ,List.take_of_length_le oQ]
  have e2:P.drop 32=x.data:=by rw [← hP,List.drop_append,List.drop_of_length_le oQ,hk];simp
  rw [e1,e2,a]
  obtain ⟨tag,key,data⟩:=x
  simp only at t ⊢
  rw [t];rfl
 ·rw [if_pos oQ]
  rw [if_neg (by rw [t];decide)]at hP
  have e1:(P++rest).take 32=x.key:=by rw [← hP,List.append_assoc,List.take_append_of_le_length oQ,List.take_of_length_le oQ]
  have e2:P.drop 32=x.data:=by rw [← hP,List.drop_append,List.drop_of_length_le oQ,hk];simp
  rw [e1,e2,a]
  obtain ⟨tag,key,data⟩:=x
  simp only at t ⊢
  rw [t];rfl
 ·rw [if_neg oQ,a]
  rcases Ea hc with ⟨t',d⟩|⟨t',k,d⟩|⟨t',d⟩
  ·rw [t]at t';cases t'
  ·obtain ⟨tag,key,data⟩:=x
   simp only at t k d ⊢
   rw [t,k,d];rfl
  ·rw [t]at t';cases t'
def encs (l:List aX):Bs:=l.flatMap fun x=>(encode x).1
def jd (x:aX):Prop:=(encode x).2=0∧x.key.length=32
def kG:List aX→Nat→List gG
 |[],_=>[]
 |x::l,at_=>⟨x,at_,(encode x).1.length⟩::kG l (at_+(encode x).1.length)
theorem Pz:∀ (l:List aX) (at_:Nat),(kG l at_).map (·.e)=l
 |[],_=>rfl
 |x::l,at_=>by rw [kG,List.map_cons,Pz l]
end Go.ak
namespace Go.Seg
open Go.aB
open Go.ak (encs jd)
theorem JK {a b:Int} (ha:0≤a) (ha2:a<1048576) (hb:0≤b) (hb2:b<1048576) (h:name a=name b):a=b:=by
 have h1:=SG a ha ha2
 have h2:=SG b hb hb2
 rw [h]at h1
 rw [h1]at h2
 exact congrArg Prod.fst h2
theorem ZW (n:Int) (h1:0≤n) (h2:n<1048576):good (name n)=true:=by
 unfold name
 rw [if_neg oQ]
 unfold good
 have hl:(lead++iI n.toNat 8).length=12:=by rw [List.length_append,zq];rfl
 have hs:(⟨(lead++iI n.toNat 8).toArray⟩:ByteArray).size=12:=by show (lead++iI n.toNat 8).toArray.size=12;simp [hl]
 rw [hs]
 simp only [List.all_append]
 have hd:(iI n.toNat 8).all pO=true:=by
  rw [List.all_eq_true]
  intro c hc
  have:=(List.all_eq_true.1 (OD 8 n.toNat)) c hc
  unfold lT at this
  rw [Bool.and_eq_true,decide_eq_true_eq,decide_eq_true_eq]at this
  unfold pO
  have e1:(48:UInt8)≤c:=UInt8.le_iff_toNat_le.2 this.1
  have e2:c≤57:=UInt8.le_iff_toNat_le.2 this.2
  simp [e1,e2]
 rw [hd]
 rfl
theorem Y0 {M:aB}{K r:Nat} (h:Calm K r M){s t:ByteArray}{i:Nat} (h1:dD M.now s=some i) (h2:dD M.now t=some i):t=s:=by
 by_cases e:t=s
 ·exact e
 ·exfalso
  have:=(Ll h.ok.iO.qM h.dst h1).1 (t,i) (List.mem_filter.2 ⟨kX h2,by simpa [bne,nU] using e⟩)
  exact this rfl
theorem all_some {M:aB} (q:Quiet M){s:ByteArray}{i:Nat} (h:dD M.now s=some i):M.all s=((M.file i).now,0):=by
 unfold aB.all;rw [q.off,h];rfl
theorem all_none {M:aB} (q:Quiet M){s:ByteArray} (h:dD M.now s=none):M.all s=([],9):=by
 unfold aB.all;rw [q.off,h];rfl
section
variable {K r:Nat}{M:aB}{L:Log}
theorem Ns (h:Calm K r M){s:ByteArray}{i:Nat} (hi:dD M.now s=some i) (b:Bs) (hr:M.used+b.length≤M.room) :
  (M.append s b).2=0∧(M.append s b).1.now=M.now∧(M.append s b).1.used=M.used+b.length∧(M.append s b).1.all s=((M.all s).1++b,0)∧∀ t,t≠s→(M.append s b).1.all t=M.all t:=by
 have hlt:i<M.files.length:=h.ok.iO.ids _ (kX hi)
 rcases zh h.quiet s b with ⟨a1,_⟩|⟨j,a1,⟨a2,a3⟩|⟨a2,a3⟩⟩
 ·rw [hi]at a1;cases a1
 ·exfalso;omega
 rw [hi]at a1
 cases a1
 have hq:=(h.append s b).quiet
 rw [a3]at hq ⊢
 refine ⟨rfl,rfl,?_,?_,fun t ht=>?_⟩
 ·have:=Vd h.ok h.dst hi ((M.file i).do ⟨false,0,b⟩)
  have e:((M.file i).do ⟨false,0,b⟩).now.length=(M.file i).now.length+b.length:=by simp [bD.do,iF.on]
  rw [e]at this
  show (M.ig i _).used=_
  omega
 ·rw [all_some hq (show dD (M.ig i _).now s=some i from hi),all_some h.quiet hi]
  show (((M.ig i _).file i).now,(0:Int))=_
  rw [Bj hlt,if_pos rfl];rfl
 ·cases hj:dD M.now t with
  |none=>rw [all_none hq (show dD (M.ig i _).now t=none from hj),all_none h.quiet hj]
  |some j=>
   rw [all_some hq (show dD (M.ig i _).now t=some j from hj),all_some h.quiet hj]
   show (((M.ig i _).file j).now,(0:Int))=_
   rw [Bj hlt,if_neg (fun e=>ht (Y0 h hi (by rw [← e];exact hj)))]
theorem YH (h:Calm K r M){s:ByteArray} (hg:good s=true) (hn:dD M.now s=none) (hl:M.now.length<500) :
  (M.create s).2=0∧(M.create s).1.now=kY M.now s M.files.length∧(M.create s).1.used=M.used∧(M.create s).1.all s=([],0)∧∀ t,t≠s→(M.create s).1.all t=M.all t:=by
 rcases Ec h.quiet s with ⟨c1,c2,c3⟩|⟨_,_,_,c⟩
 ·exfalso
  apply c1
  unfold aB.create
  rw [h.quiet.off,h.quiet.step,hg,hn]
  simp only [Bool.false_eq_true,if_false,Bool.true_eq_false,Option.isSome_none]
  rw [if_neg oQ]
 have hq:=(h.create s).quiet
 rw [c]at hq ⊢
 refine ⟨rfl,rfl,?_,?_,fun t ht=>?_⟩
 ·show ((kY M.now s M.files.length).map fun p=>((M.files++[bD.new]).getD p.2 bD.new).now.length).sum=_
  rw [FK _ _ _ (fun j=>((M.files++[bD.new]).getD j bD.new).now.length),yC hn]
  have e0:((M.files++[bD.new]).getD M.files.length bD.new).now.length=0:=by simp [bD.new]
  rw [e0,Nat.zero_add]
  refine aB.FI (g:=fun j=>((M.files++[bD.new]).getD j bD.new).now.length) (h:=fun j=>(M.file j).now.length) fun p hp=>?_
  have:=h.ok.iO.ids p hp
  simp only [aB.file,List.getD_eq_getElem?_getD]
  rw [List.getElem?_append_left this]
 ·refine (all_some hq (i:=M.files.length) (JU h.ok.iO.qM _ _)).trans ?_
  simp [aB.file,bD.new]
 ·have e:=JR (l:=M.now) (i:=M.files.length) ht
  cases hj:dD M.now t with
  |none=>rw [hj]at e;exact (all_none hq e).trans (all_none h.quiet hj).symm
  |some j=>
   rw [hj]at e
   refine (all_some hq e).trans ?_
   rw [all_some h.quiet hj]
   have:=h.ok.iO.ids _ (kX hj)
   simp only [aB.file,List.getD_eq_getElem?_getD]
   rw [List.getElem?_append_left this]
theorem TA (q:Quiet M){s:ByteArray}{l:Bs} (h:M.all s=(l,0)){a n:Nat} (hn:a+n≤l.length):M.read s a n=((l.drop a).take n,0):=by
 unfold aB.all at h
 unfold aB.read
 rw [q.off]at h ⊢
 simp only [Bool.false_eq_true,if_false]at h ⊢
 split at h
 ·cases h
 ·rename_i i hi
  cases h
  rw [if_neg oQ,if_neg oQ]
  simp
theorem Log.afh (L:Log) (M:aB):(L.shut M).1.1.limit=L.limit:=by
 unfold Log.shut
 split
 ·rfl
 split
 ·split <;> rfl
 ·rfl
structure Holds (n:Nat) (L:Log) (M:aB) (C:List (List ak.aX)):Prop where
 keeps:Keeps (n * 5) 1048576 L M
 len:L.l.length=C.length
 at_:∀ (k:Nat) (es:List ak.aX),C[k]?=some es→L.l[k]?=some ((k:Int),8+((encs es).length:Int))
 file:∀ (k:Nat) (es:List ak.aX),C[k]?=some es→M.all (name k)=(mag++encs es,0)
 good:∀ es∈C,(∀ x∈es,jd x)∧es≠[]
 fit:∀ es∈C,8+((encs es).length:Int)≤L.limit∨es.length=1
 count:C.length≤n
 used:M.used≤n * 400
 names:M.now.length≤n
 only:∀ (s:ByteArray) (i:Nat),dD M.now s=some i→∃ k:Nat,k<C.length∧s=name k
def put (C:List (List ak.aX)) (on:Bool) (x:ak.aX):List (List ak.aX):=if on then C.dropLast++[C.getLastD []++[x]] else C++[[x]]
theorem Ci {C:List (List ak.aX)} (h:C≠[]):C=C.dropLast++[C.getLastD []]:=by
 conv=>lhs;rw [← List.dropLast_concat_getLast h]
 rw [List.getLastD_eq_getLast?,List.getLast?_eq_some_getLast h];rfl
theorem ac6 (C:List (List ak.aX)) (on:Bool) (x:ak.aX) (h:on=true→C≠[]):(put C on x).flatten=C.flatten++[x]:=by
 unfold put
 cases on with
 |false=>simp
 |true=>
  have e:=Ci (h rfl)
  simp only [if_true]
  conv=>rhs;rw [e]
  simp only [List.flatten_append,List.flatten_cons,List.flatten_nil,List.append_nil,List.append_assoc]
theorem xU (a b:List ak.aX):encs (a++b)=encs a++encs b:=by unfold encs;rw [List.flatMap_append]
theorem zy (x:ak.aX):encs [x]=(ak.encode x).1:=by unfold encs;simp
variable {n:Nat}{C:List (List ak.aX)}
theorem Y7 {x:ak.aX} (h0:(ak.encode x).2=0) (hk:x.key.length=32) (hd:x.data.length≤300):(ak.encode x).1.length≤341:=by
 rw [KW h0 hk]
 unfold ak.size
 split
 ·omega
 ·split <;> omega
theorem TB {s:Int×Int}{x:ak.aX}{es:List ak.aX} (hK:Keeps K r L M) (hl:L.l.getLast?=some s) (hall:M.all (name s.1)=(mag++encs (es++[x]),0)) (hg:jd x) :
  L.read M ⟨s.1,8+((encs es).length:Int),((ak.encode x).1.length:Int)⟩=(x,0):=by
 unfold Log.read
 have hat:=hK.log.X0 hl
 simp only [hat]
 have hr:=TA hK.calm.quiet hall (a:=8+(encs es).length) (n:=(ak.encode x).1.length) (by rw [xU,zy];simp only [List.length_append];have:mag.length=8:=rfl;omega)
 have hd:((mag++encs (es++[x])).drop (8+(encs es).length)).take (ak.encode x).1.length=(ak.encode x).1:=by
  rw [xU,zy,← List.append_assoc,List.drop_append,List.drop_of_length_le (by simp only [List.length_append];have:mag.length=8:=rfl;omega)]
  have:8+(encs es).length - (mag++encs es).length=0:=by simp only [List.length_append];have:mag.length=8:=rfl;omega
  rw [this,List.drop_zero,List.nil_append,List.take_length]
 rw [hd]at hr
 have hz:((8+(encs es).length:Nat):Int)=8+((encs es).length:Int):=oQ
 rw [hz]at hr
 have hre:=ak.TD hg.1 hg.2 []
 rw [List.append_nil]at hre
 rw [hr]
 simp only [hre]
 rw [if_neg aJ,if_neg aJ,if_neg (by simp)]
end
end Go.Seg
namespace Go.Seg
structure Cal where
 kind:Int
 e:ak.aX
 n:Int
 p:bF
 l:List Int
def Cal.cut (c:Cal):Cal:=⟨c.kind,ak.Ov 300 c.e,c.n,c.p,c.l.take 60⟩
end Go.Seg
namespace Go.Proofs.YtlimfgdbfadohaaGreatDoor
open Go Go.Sl Go.aB Go.MapKept Go.RowKit
section
variable {w0 w:World}{F R:List aC}{v bv dv x lv:Value}
end
section
variable {w0 w:World}{F R:List aC}{v bv dv x lv:Value}
theorem agK (x lo hi:Int) (h:lo≤hi):lo≤within x lo hi∧within x lo hi≤hi:=by
 unfold within
 split
 ·exact ⟨Int.le_refl _,h⟩
 ·split <;> omega
end
end Go.Proofs.YtlimfgdbfadohaaGreatDoor
namespace Go.Seg
open Go.aB
theorem N7 {K:Nat}{L:Log}{M:aB} (h:M.Ok K) (n:Int):(L.bytes M n).1.length≤16777216:=by
 unfold Log.bytes
 split
 ·simp
 ·unfold aB.all
  split
  ·simp
  split
  ·simp
  ·exact (h.file _).sH
end Go.Seg
namespace Go.Seg
open Go.aB
open Go.ak (encs jd)
section
variable {n:Nat}{M:aB}{L:Log}{C:List (List ak.aX)}
def YA (C:List (List ak.aX)):Prop:=∀ es∈C,∀ (k:Nat) (x:ak.aX),es[k]?=some x→x.tag=2→k+1=es.length
def acj (es:List ak.aX):Prop:=∀ x∈es,x.tag≠2
structure Tail (on:Bool) (C:List (List ak.aX)):Prop where
 last:YA C
 tail:on=true→acj (C.getLastD [])
theorem Ph {k:Nat} (h:L.fits k=true):L.on=true:=by
 unfold Log.fits at h
 rw [Bool.and_eq_true]at h
 exact h.1
end
end Go.Seg
namespace Go.Proofs.YtlimfgdbfadohaaGreatDoor
open Go Go.Sl Go.aB Go.MapKept Go.RowKit
section
variable {w0 w:World}{F R:List aC}{v bv dv x lv:Value}
theorem PD {fs:List (ak.gG×Value)}{v:Value} (hk:∀ p∈fs,p.1.e.key.length=32) (h:Sat w0 w (aF 223 36 v (lF fs)::R)):∃ a c,v = .slice a fs.length c:=by
 obtain ⟨a,n,c,rfl,hl,hx⟩:=Sat.rd h
 rw [Py hk]at hl
 obtain rfl:n=fs.length:=by omega
 exact ⟨a,c,rfl⟩
theorem Oz:∀ (fs:List (ak.gG×Value)) (i:Nat) (p:ak.gG×Value),fs[i]?=some p→∃ G,pI fs=star (aK p.2 p.1.e.data) G
 |[],_,_,h=>by cases h
 |x::fs,0,p,h=>by
  obtain rfl:x=p:=by simpa using h
  exact ⟨_,rfl⟩
 |x::fs,i+1,p,h=>by
  obtain ⟨G,hG⟩:=Oz fs i p (by simpa using h)
  refine ⟨star (aK x.2 x.1.e.data) G,?_⟩
  show star (aK x.2 x.1.e.data) (pI fs)=_
  rw [hG,Df]
theorem YM {fs:List (ak.gG×Value)}{i:Nat}{p:ak.gG×Value} (h:fs[i]?=some p):Ro w0 (pI fs::R) (bK 1 p.2 (ay p.1.e.data)):=fun w hw=>by
 obtain ⟨G,hG⟩:=Oz fs i p h
 rw [hG]at hw
 exact Sat.rd (Sat.star.1 hw)
theorem NY {l:Bs} (h:Sat w0 w (aK v l::R)):kK v∧∃ a c,v = .slice a l.length c:=by
 refine ⟨Yj h,?_⟩
 obtain ⟨a,n,c,rfl,_,_,rfl⟩:=iY h
 exact ⟨a,c,rfl⟩
end
end Go.Proofs.YtlimfgdbfadohaaGreatDoor
namespace Go.ak
theorem Um:∀ (k:Nat) (b:Bs) (at_:Nat),(pV k b at_).1.length≤k
 |0,_,_=>Nat.le_refl 0
 |k+1,b,at_=>by
  unfold pV
  split
  ·exact Nat.zero_le _
  split
  ·exact Nat.zero_le _
  ·simp only [List.length_cons]
   have:=Um k
   exact Nat.succ_le_succ (this _ _)
theorem Un (b:Bs):(scan b).1.length≤b.length:=by
 unfold scan
 split
 ·exact Um _ _ _
 ·exact Nat.zero_le _
end Go.ak
namespace Go.Proofs.YtlimfgdbfadohaaGreatDoor
open Go Go.Sl Go.aB Go.MapKept Go.RowKit
abbrev dJ (L:Seg.Log) (M:aB):Rep.Told:=fun n=>L.bytes M n
section
variable {w0 w:World}{F:List aC}{p m K:Nat}{L:Seg.Log}{M:aB}{sv:Value}
set_option maxRecDepth 20000 in
theorem split_c (hL:L.Ok) (hM:M.Ok K) (hH:Ro w0 F Half) (h:Sat w0 w (aF 3 1 sv (ints L.aV)::aS p m L::aT m M::F)) :
  Calls Tryz.prog 110 #[ptr p,sv] w (aI fun v w'=>v = .tuple #[.int .i64 (Rep.split (dJ L M) L.aV L.aV.length).1,errno (Rep.split (dJ L M) L.aV L.aV.length).2] ∧
   Sat w0 w' (aF 3 1 sv (ints L.aV)::aS p m L::aT m M::F)):=by
 have HL:=uQ hL;have HM:=uQ hM;have HH:=uQ hH
 have Hlen:=uQ (show L.aV.length≤1073741824 from by unfold Seg.Log.aV;rw [List.length_map];have:=hL.len;omega)
 obtain ⟨sa,sc,rfl⟩:∃ a c,sv = .slice a L.aV.length c:=by
  obtain ⟨a,n,c,rfl,hl,_⟩:=Sat.rd h
  refine ⟨a,c,?_⟩
  rw [show (ints L.aV).length=L.aV.length from List.length_map ..,Nat.mul_one]at hl
  rw [hl]
 have w1:IntKind.i64.wrap ((L.aV.length:Int) - 1)=(L.aV.length:Int) - 1:=IntWalk.i64_in _ (by have:=Hlen.out;omega)
 clear hL hM hH
 go_enter Tryz.func110,Tryz.ntmps110
 go_wp2_with fail
 go_loopg [6] L.aV.length (fun g iq wr=>∃ k:Nat,g=0+k∧k≤L.aV.length∧iq = .int .i64 ((k:Int) - 1)∧Rep.split (dJ L M) L.aV L.aV.length=Rep.split (dJ L M) L.aV k ∧
  Sat w0 wr (aF 3 1 (.slice sa L.aV.length sc) (ints L.aV)::aS p m L::aT m M::F))
 case atStart=>exact ⟨L.aV.length,(Nat.zero_add _).symm,Nat.le_refl _,rfl,rfl,h⟩
 case round=>
  obtain ⟨k,rfl,hk,rfl,he,hS⟩:=hrel
  clear h
  cases k with
  |zero=>
   have c1:¬ (((0:Nat):Int) - 1)≥0:=by decide
   have He:=uQ he
   clear he
   go_wp2_with fail
   go_ret2
   rw [He.out]
   exact ⟨_,rfl,rfl,hS⟩
  |succ k=>
   have e1:((k+1:Nat):Int) - 1=(k:Int):=oQ
   rw [e1]
   have c1:(k:Int)≥0:=oQ
   have c2:(k:Int)<(L.aV.length:Int):=oQ
   have w2:IntKind.i64.wrap ((k:Int) - 1)=(k:Int) - 1:=IntWalk.i64_in _ (by have:=Hlen.out;omega)
   have w3:IntKind.i64.wrap ((k:Int)+1)=((k+1:Nat):Int):=by rw [IntWalk.i64_in _ (by have:=Hlen.out;omega)];omega
   obtain ⟨s,hs⟩:∃ s,L.aV[k]?=some s:=⟨_,List.getElem?_eq_getElem oQ⟩
   have hgd:L.aV.getD k 0=s:=by rw [List.getD,hs];rfl
   have Hu:=uQ (show Rep.split (dJ L M) L.aV (k+1)=if (L.bytes M s).2≠0 then (0,(L.bytes M s).2) else if (ak.scan (L.bytes M s).1).2.2=0∧Rep.zA (ak.scan (L.bytes M s).1).1=true then (k+1,0) else Rep.split (dJ L M) L.aV k by
    rw [Rep.split,hgd])
   obtain ⟨bk,off,cc,hsv,hcell⟩:=mJ (f:=fun i:Int=>[Value.int .i64 i]) (k:=1) (l:=L.aV) (fun u _=>rfl) (by have:=Sat.rd hS;rw [show ints L.aV=L.aV.flatMap fun i=>[Value.int .i64 i] from by unfold ints;exact List.map_eq_flatMap]at this;exact this) hs aJ
   cases hsv
   have f0:=hcell 0 _ rfl
   rw [Nat.mul_one,Nat.add_zero]at f0
   have He:=uQ he
   have hb:=Rq HL.out HM.out s (hS.sb:Sat w0 wr (aS p m L::aT m M::aF 3 1 (.slice (some ⟨bk,off,none⟩) L.aV.length sc) (ints L.aV)::F))
   have hk':=uQ hk
   clear hcell hs hgd he hS hk
   go_wp2_with fail
   refine hb.mono ?_
   rintro ee w3 ⟨v,rfl,bv,rfl,hS3⟩
   clear hb
   obtain ⟨hcap,ca,cc,rfl⟩:=NY hS3
   by_cases h0:(L.bytes M s).2=0
   rotate_left
   ·have hb:((L.bytes M s).2 != 0)=true:=by rw [bne_iff_ne];exact h0
    have Hf:=uQ (show Rep.split (dJ L M) L.aV (k+1)=(0,(L.bytes M s).2) by rw [Hu.out,if_pos h0])
    clear h0
    go_wp2_with fail
    go_ret2
    rw [He.out,Hf.out]
    exact ⟨_,rfl,rfl,hS3.sb⟩
   have hb:((L.bytes M s).2 != 0)=false:=by rw [h0];rfl
   have H0:=uQ h0
   rw [h0]
   clear h0
   have hbl:=Seg.N7 (L:=L) HM.out s
   have hsc:=PS (w0:=w0) (w:=w3) (L.bytes M s).1 (Ro.aK _ _) hcap (Ro.os HH.out) (Nat.le_trans hbl aJ) hS3
   have lK:=uQ hbl
   clear hcap hbl
   go_wp2_with fail
   refine hsc.mono ?_
   rintro ee w4 ⟨v,rfl,fs,fv,hfs,hfk,rfl,hS4⟩
   clear hsc hS3
   obtain ⟨fa,fc,rfl⟩:=PD hfk hS4
   have hS5:Sat w0 w4 (aF 3 1 (.slice (some ⟨bk,off,none⟩) L.aV.length sc) (ints L.aV)::aS p m L::aT m M::F):=hS4.sb
   by_cases h1:(ak.scan (L.bytes M s).1).2.2=0
   rotate_left
   ·have hb1:((ak.scan (L.bytes M s).1).2.2==0)=false:=by rw [beq_eq_false_iff_ne];exact h1
    have Hf:=uQ (show Rep.split (dJ L M) L.aV (k+1)=Rep.split (dJ L M) L.aV k by rw [Hu.out,if_neg (fun h=>h H0.out),if_neg (fun h=>h1 h.1)])
    clear h1 hS4 hfs hfk
    go_wp2_with fail
    go_roundg (0+k)
    case measure=>omega
    case rel=>exact ⟨k,rfl,Nat.le_of_succ_le hk'.out,by first|rfl|go_num,He.out.trans Hf.out,hS5⟩
   have hb1:((ak.scan (L.bytes M s).1).2.2==0)=true:=beq_iff_eq.2 h1
   have hen:=Za (w:=w4) fs hfk (by
    have:=ak.Un (L.bytes M s).1
    rw [← hfs,List.length_map]at this
    have:=lK.out;omega) (Sat.rd hS4)
   rw [hfs]at hen
   clear hS4 hfs hfk
   by_cases h2:Rep.zA (ak.scan (L.bytes M s).1).1=true
   ·have Hf:=uQ (show Rep.split (dJ L M) L.aV (k+1)=(k+1,0) by rw [Hu.out,if_neg (fun h=>h H0.out),if_pos ⟨h1,h2⟩])
    rw [h2]at hen
    clear h1 h2
    go_wp2_with fail
    refine hen.mono ?_
    rintro ee w5 ⟨v,rfl,rfl,rfl⟩
    clear hen
    go_wp2_with fail
    go_ret2
    rw [He.out,Hf.out]
    exact ⟨_,rfl,rfl,hS5⟩
   ·have Hf:=uQ (show Rep.split (dJ L M) L.aV (k+1)=Rep.split (dJ L M) L.aV k by rw [Hu.out,if_neg (fun h=>h H0.out),if_neg (fun h=>h2 h.2)])
    rw [Bool.not_eq_true]at h2
    rw [h2]at hen
    clear h1 h2
    go_wp2_with fail
    refine hen.mono ?_
    rintro ee w5 ⟨v,rfl,rfl,rfl⟩
    clear hen
    go_wp2_with fail
    go_roundg (0+k)
    case measure=>omega
    case rel=>exact ⟨k,rfl,Nat.le_of_succ_le hk'.out,by first|rfl|go_num,He.out.trans Hf.out,hS5⟩
end
section
variable {P:Program}{w0 w:World}{t ty:TypeId}
theorem uI {L R:List aC}{b:Nat}{T:TypeId}{cs:Array Value}{fn:Func}{p:Tmp}{tmps:Array Value}{d:TypeDesc} (hf:fn.results=#[.cell p ty]) (hs:Sat w0 w L) (hp:tmps.getD p undef = .pointer (some ⟨b,0,none⟩)) (k:Pick (pt b (.cells cs T (0,0))) L R)
  (hu:P.underlying ty=some d) (hd:d.isRow=true) (hi:(P.info? ty).map (·.size)=some cs.size):(results fn tmps).run P w = .ok (.agg cs) w:=by
 have hl:=run_loadVar_row (P:=P) w b T ty cs (0,0) d (hs.pick k).at hu (by cases d <;> simp_all [TypeDesc.isRow]) hi
 have e:(results fn tmps).run P w=((asAddr (tmps.getD p undef)).run P w).andThen fun a w₁=>(loadVar ty a).run P w₁:=by
  simp only [results,hf]
  simp [Sem.run_bind,Result.andThen]
 rw [e,hp]
 simp [asAddr,hl,Result.andThen]
end
end Go.Proofs.YtlimfgdbfadohaaGreatDoor
namespace Go.Rep
def lastOf (bt:Told) (ns:List Int):Int×Int:=
 if (split bt ns ns.length).2≠0 then (0,(split bt ns ns.length).2) else if (split bt ns ns.length).1=0 then (-1,0) else (ns.getD ((split bt ns ns.length).1 - 1) 0,0)
end Go.Rep
namespace Go.Proofs.YtlimfgdbfadohaaGreatDoor
open Go Go.Sl Go.aB Go.MapKept Go.RowKit
section
variable {w0 w:World}{F:List aC}{p m K:Nat}{L:Seg.Log}{M:aB}{sv:Value}
theorem Jt {sv:Value}{l:List Int}{i:Nat}{s:Int} (h:bK 1 sv (ints l) w) (hs:l[i]?=some s):∃ bk off c,sv = .slice (some ⟨bk,off,none⟩) l.length c∧w.cell? ⟨bk,off+i,none⟩=some (.int .i64 s):=by
 obtain ⟨bk,off,cc,hsv,hcell⟩:=mJ (f:=fun i:Int=>[Value.int .i64 i]) (k:=1) (l:=l) (fun u _=>rfl) (by rw [show ints l=l.flatMap fun i=>[Value.int .i64 i] from by unfold ints;exact List.map_eq_flatMap]at h;exact h) hs aJ
 have f0:=hcell 0 _ rfl
 rw [Nat.mul_one,Nat.add_zero]at f0
 exact ⟨bk,off,cc,hsv,f0⟩
theorem aaX {sv:Value}{l:List Int} (h:bK 1 sv (ints l) w):∃ a c,sv = .slice a l.length c:=by
 obtain ⟨a,n,c,rfl,hl,_⟩:=h
 refine ⟨a,c,?_⟩
 rw [show (ints l).length=l.length from List.length_map ..,Nat.mul_one]at hl
 rw [hl]
set_option maxRecDepth 20000 in
theorem abj (hL:L.Ok) (hM:M.Ok K) (hH:Ro w0 F Half) (h:Sat w0 w (aS p m L::aT m M::F)) :
  Calls Tryz.prog 75 #[ptr p] w (aI fun v w'=>v = .tuple #[.int .i64 (Rep.lastOf (dJ L M) L.aV).1,errno (Rep.lastOf (dJ L M) L.aV).2]∧Sat w0 w' (aS p m L::aT m M::F)):=by
 have Hlen:=uQ (show L.aV.length≤1073741824 from by unfold Seg.Log.aV;rw [List.length_map];have:=hL.len;omega)
 have hse:=JC hL h
 have HL:=uQ hL;have HM:=uQ hM;have HH:=uQ hH
 clear hL hM hH h
 go_enter Tryz.func75,Tryz.ntmps75
 go_wp2_with fail
 refine hse.mono ?_
 rintro ee w1 ⟨v,rfl,hS⟩
 clear hse
 have hsp:=split_c HL.out HM.out HH.out hS
 go_wp2_with fail
 refine hsp.mono ?_
 rintro ee w2 ⟨v',rfl,rfl,hS2⟩
 clear hsp hS
 have lD:=uQ (Rep.KZ (dJ L M) L.aV L.aV.length)
 have HS:=uQ (hS2.sb:Sat w0 w2 (aS p m L::aT m M::F))
 have hrd:=Sat.rd hS2
 clear hS2
 by_cases h0:(Rep.split (dJ L M) L.aV L.aV.length).2=0
 ·have hb:((Rep.split (dJ L M) L.aV L.aV.length).2 != 0)=false:=by rw [h0];rfl
  by_cases h1:(Rep.split (dJ L M) L.aV L.aV.length).1=0
  ·have Hf:=uQ (show Rep.lastOf (dJ L M) L.aV=(-1,0) by unfold Rep.lastOf;rw [if_neg (fun h=>h h0),if_pos h1])
   have hb1:(((Rep.split (dJ L M) L.aV L.aV.length).1:Int)==0)=true:=by rw [h1];rfl
   clear hrd h0 h1
   go_wp2_with fail
   go_ret2
   rw [Hf.out]
   exact ⟨_,rfl,rfl,HS.out⟩
  ·have Hf:=uQ (show Rep.lastOf (dJ L M) L.aV=(L.aV.getD ((Rep.split (dJ L M) L.aV L.aV.length).1 - 1) 0,0) by unfold Rep.lastOf;rw [if_neg (fun h=>h h0),if_neg h1])
   have hle:=lD.out
   generalize (Rep.split (dJ L M) L.aV L.aV.length).1=n at *
   have hb1:((n:Int)==0)=false:=by rw [beq_eq_false_iff_ne];omega
   have w1:IntKind.i64.wrap ((n:Int) - 1)=((n - 1:Nat):Int):=by rw [IntWalk.i64_in _ (by have:=Hlen.out;omega)];omega
   have hlt:n - 1<L.aV.length:=oQ
   have hs:L.aV[n - 1]?=some (L.aV.getD (n - 1) 0):=by rw [List.getD,List.getElem?_eq_getElem hlt];rfl
   generalize L.aV.getD (n - 1) 0=s at *
   generalize n - 1=j at *
   obtain ⟨bk,off,c,rfl,f0⟩:=Jt hrd hs
   have c1:(0:Int)≤(j:Int):=oQ
   have c2:(j:Int)<(L.aV.length:Int):=oQ
   clear hrd h0 h1 hs hlt hle
   go_wp2_with fail
   go_ret2
   rw [Hf.out]
   exact ⟨_,rfl,rfl,HS.out⟩
 ·have hb:((Rep.split (dJ L M) L.aV L.aV.length).2 != 0)=true:=by rw [bne_iff_ne];exact h0
  have Hf:=uQ (show Rep.lastOf (dJ L M) L.aV=(0,(Rep.split (dJ L M) L.aV L.aV.length).2) by unfold Rep.lastOf;rw [if_pos h0])
  clear hrd h0
  go_wp2_with fail
  go_ret2
  rw [Hf.out]
  exact ⟨_,rfl,rfl,HS.out⟩
end
section
variable {P:Program}{w0 w:World}{ops:Array Oper}{rest:List Oper}{a:Act}{Q:Exit→Act→World→Prop}{dst:Option Tmp}{t ty:TypeId}{pos:String}{after:Array Edge}{x y:Operand}{v v1 v2:Value}{i1 i2:Nat}
theorem Vk (h1:a.eval x=v1) (h2:a.eval y=v2) (hr:∀ w,(Instr.build ty #[(i1,v1),(i2,v2)]).run P w = .ok v w) (h:wpList P ops Q rest (a.put dst v) w) :
  wpList P ops Q (⟨dst,.build ty #[(i1,x),(i2,y)],t,pos,after,none⟩::rest) a w:=
 wpList_plain rfl fun _ hK=>by
  unfold Oper.wp execOp
  simp only [List.map_toArray,List.map_cons,List.map_nil,h1,h2,Sem.run_bind,hr,Result.andThen_ok,Sem.run_pure]
  exact hK _ _ h
theorem tC (hr:∀ w,(Instr.build ty #[]).run P w = .ok v w) (h:wpList P ops Q rest (a.put dst v) w):wpList P ops Q (⟨dst,.build ty #[],t,pos,after,none⟩::rest) a w:=
 wpList_plain rfl fun _ hK=>by
  unfold Oper.wp execOp
  simp only [List.map_toArray,List.map_nil,Sem.run_bind,hr,Result.andThen_ok,Sem.run_pure]
  exact hK _ _ h
theorem zU {L R:List aC}{b:Nat}{T:TypeId}{cs:Array Value}{fn:Func}{t p u:Tmp}{tmps:Array Value}{d:TypeDesc} (hf:fn.results=#[.tmp t,.cell p ty,.tmp u]) (hs:Sat w0 w L) (hp:tmps.getD p undef = .pointer (some ⟨b,0,none⟩)) (k:Pick (pt b (.cells cs T (0,0))) L R)
  (hu:P.underlying ty=some d) (hd:d.isRow=true) (hi:(P.info? ty).map (·.size)=some cs.size):(results fn tmps).run P w = .ok (.tuple #[tmps.getD t undef,.agg cs,tmps.getD u undef]) w:=by
 have hl:=run_loadVar_row (P:=P) w b T ty cs (0,0) d (hs.pick k).at hu (by cases d <;> simp_all [TypeDesc.isRow]) hi
 have e:(results fn tmps).run P w=((asAddr (tmps.getD p undef)).run P w).andThen fun a w₁=>((loadVar ty a).run P w₁).andThen fun v w₂=> .ok (.tuple #[tmps.getD t undef,v,tmps.getD u undef]) w₂:=by
  simp only [results,hf]
  simp [Sem.run_bind,Result.andThen]
 rw [e,hp]
 simp [asAddr,hl,Result.andThen]
theorem Nz (h:Stop (wpList P ops Q (⟨dst,.build ty #[(i1,x),(i2,y)],t,pos,after,none⟩::rest) a w)):wpList P ops Q (⟨dst,.build ty #[(i1,x),(i2,y)],t,pos,after,none⟩::rest) a w:=h.out
theorem rZ (h:Stop (wpList P ops Q (⟨dst,.build ty #[],t,pos,after,none⟩::rest) a w)):wpList P ops Q (⟨dst,.build ty #[],t,pos,after,none⟩::rest) a w:=h.out
end
section
variable {w0 w:World}{F:List aC}
theorem J9:qJ Tryz.prog 53=some [(0,1),(1,1),(2,1),(3,32),(35,1)]:=by kernel_rfl
theorem aeu (x y:Int) (w:World):(Instr.build 53 #[(0,.int .i64 x),(1,.int .i64 y)]).run Tryz.prog w = .ok (.agg (fJ ⟨x,y,0⟩)) w:=by
 have h:=run_build (P:=Tryz.prog) [(0,.int .i64 x),(1,.int .i64 y)] J9 tH (by
  intro p hp
  have hzz:(Value.agg (fJ Rep.eY.zero)).cells.size=36:=by rfl
  rw [hzz]
  rcases List.mem_cons.1 hp with rfl|hp
  ·exact ⟨0,rfl,by show 0+1≤36;omega⟩
  ·rw [List.mem_singleton.1 hp]
   exact ⟨1,rfl,by show 1+1≤36;omega⟩) w
 exact h
theorem aev (x y z:Int) (w:World):(Instr.build 53 #[(0,.int .i64 x),(1,.int .i64 y),(2,.int .i64 z)]).run Tryz.prog w = .ok (.agg (fJ ⟨x,y,z⟩)) w:=by
 have h:=run_build (P:=Tryz.prog) [(0,.int .i64 x),(1,.int .i64 y),(2,.int .i64 z)] J9 tH (by
  intro p hp
  have hzz:(Value.agg (fJ Rep.eY.zero)).cells.size=36:=by rfl
  rw [hzz]
  rcases List.mem_cons.1 hp with rfl|hp
  ·exact ⟨0,rfl,by show 0+1≤36;omega⟩
  rcases List.mem_cons.1 hp with rfl|hp
  ·exact ⟨1,rfl,by show 1+1≤36;omega⟩
  ·rw [List.mem_singleton.1 hp]
   exact ⟨2,rfl,by show 2+1≤36;omega⟩) w
 exact h
theorem Fp (w:World):(Instr.build 53 #[]).run Tryz.prog w = .ok (.agg (fJ Rep.eY.zero)) w:=run_build (P:=Tryz.prog) [] J9 tH (by simp) w
set_option maxRecDepth 20000 in
theorem Zm (s:Int) (at_:Nat) (h:Sat w0 w F):Calls Tryz.prog 124 #[.int .i64 s,.int .i64 at_] w (aI fun v w'=>v = .agg (fJ (Rep.fault s at_))∧Sat w0 w' F):=by
 have hone:∀ f,(fJ f).size=36:=fun f=>rfl
 by_cases h0:at_=0
 ·have hb:((at_:Int)==0)=true:=by rw [h0];rfl
  have e:=uQ (show Rep.fault s at_=⟨1,s,0⟩ from if_pos h0)
  clear h0
  go_enter Tryz.func124,Tryz.ntmps124
  go_wp2_with (with_reducible apply dY)
  refine ⟨dS tH h rfl ?_⟩
  intro b4 w4 h4
  go_wp2_with (first
   |((with_reducible refine Nz ⟨?_⟩);refine Vk ah ah (fun w=>aeu 1 s w) ?_)
   |((with_reducible refine bU ⟨?_⟩);refine eH (fJ ⟨1,s,0⟩) h4 ah ah ah bJ au ah ?_;intro w9 h9))
  refine ⟨rfl,_,uI rfl h9 ah aY Tryz.underlying53 rfl au,?_⟩
  exact ⟨_,rfl,by rw [e.out],h9.drop⟩
 ·have hb:((at_:Int)==0)=false:=by rw [beq_eq_false_iff_ne];omega
  have e:=uQ (show Rep.fault s at_=⟨2,s,at_⟩ from if_neg h0)
  clear h0
  go_enter Tryz.func124,Tryz.ntmps124
  go_wp2_with (with_reducible apply dY)
  refine ⟨dS tH h rfl ?_⟩
  intro b4 w4 h4
  go_wp2_with (first
   |((with_reducible refine G6 ⟨?_⟩);refine Lp ah ah ah (fun w=>aev 2 s at_ w) ?_)
   |((with_reducible refine bU ⟨?_⟩);refine eH (fJ ⟨2,s,at_⟩) h4 ah ah ah bJ au ah ?_;intro w9 h9))
  refine ⟨rfl,_,uI rfl h9 ah aY Tryz.underlying53 rfl au,?_⟩
  exact ⟨_,rfl,by rw [e.out],h9.drop⟩
end
end Go.Proofs.YtlimfgdbfadohaaGreatDoor
