import Derived.Test.YtiglchkhikciiaaGreatDoorJ5
import Derived.Test.YtiglchkhikciiaaGreatDoorSort
import Derived.Laws.Slices
set_option linter.unusedVariables false
set_option maxHeartbeats 128000000
namespace Go.Proofs.YtiglchkhikciiaaGreatDoor
open Go Go.Sl Go.ay Go.MapKept Go.RowKit
open Go.Sort
abbrev oC:Type:={ x:Tab.Slot (Seg.aU) // x.key.length=32 }
instance:Inhabited oC:=⟨⟨⟨0,aj.zero32,Seg.aU.zero⟩,rfl⟩⟩
section
variable {w0 w:World}{F:List aG}{v:Value}
theorem ahD (l:List (Tab.Slot (Seg.aU))) (hk:∀ x∈l,x.key.length=32) (hn:l.length≤1073741824) (h:Sat w0 w (aC 178 36 v (l.flatMap (slotL aK))::F)) :
  Calls Tryz.prog 209 #[v,.func (.func 210) #[] #[]] w (aO fun _ w'=>∃ l':List (Tab.Slot (Seg.aU)),(l'.Perm l∧l'.Pairwise fun a b=>¬ b.key<a.key)∧Sat w0 w' (aC 178 36 v (l'.flatMap (slotL aK))::F)):=by
 have hlen:∀ x∈l,(slotL aK x).length=36:=fun x hx=>iT aK x (hk x hx) 3 (oM _)
 rcases h.jQ with ⟨rfl,hn',h'⟩|⟨g,n,cap,cs,rfl,hl,hn',hc,hcm,htk,hp⟩
 ·obtain rfl:l=[]:=by
   cases l with
   |nil=>rfl
   |cons x l=>rw [ai7]at hn';have:=aje List.length hn';rw [aal,hlen x (.head _)]at this;simp at this
  refine (AnyF.slices_SortFunc_none Tryz.sortL none 0 (.func (.func 210) #[] #[]) w).mono ?_
  rintro e w1 ⟨rfl,rfl⟩
  exact ⟨_,rfl,[],⟨.refl _,.nil⟩,h⟩
 ·rw [iE hlen,ajW]at hl
  obtain rfl:n=l.length:=(Nat.eq_of_mul_eq_mul_right aN hl).symm
  let d:Array oC:=(l.attach.map fun x=>(⟨x.1,hk x.1 x.2⟩:oC)).toArray
  have hd:d.toList.map (·.1)=l:=by
   show (l.attach.map fun x=>(⟨x.1,hk x.1 x.2⟩:oC)).map (·.1)=l
   rw [aj9]
   exact List.attach_map_subtype_val l
  have hds:d.size=l.length:=by rw [← hd,aaJ,adu]
  have hke:∀ x:oC,((fun x:oC=>slotL aK x.1) x).length=36:=fun x=>iT aK x.1 x.2 3 (oM _)
  have hfl:∀ d:Array oC,(flatK (fun x:oC=>slotL aK x.1) 36 d).toList=(d.toList.map (·.1)).flatMap (slotL aK):=fun d=>by
   rw [Rx hke aN,List.flatMap_map]
  have hH:HoldsK (fun x:oC=>slotL aK x.1) 36 w g 0 d:=TU hp.at (by rw [size_flatK,hds,hfl,hd];exact htk)
  refine (AnyQ.slices_SortFunc Tryz.sortL 36 Tryz.isAgg178 Tryz.sizeOf178 (fun x:oC=>slotL aK x.1) hke (fun x v hv=>ajE.1 (lQ aK x.1 (uF _)) v hv) (fun x y=>Lib.compareBytes x.1.key y.1.key) (Tab.XL fun x:oC=>x.1.key) 210 #[] g 0 cap d w (fun args w=>by kernel_rfl) (fun m os dk _ x y=>aaS x.1 y.1 x.2 y.2 _) hH hp.lt oQ |> fun q=>(by rw [hds]at q;exact q:Calls Tryz.prog 209 #[.slice (some ⟨g,0,none⟩) l.length cap,.func (.func 210) #[] #[]] w _)).mono ?_
  rintro e w1 ⟨rfl,d',n',os,hpm,hst,rfl⟩
  obtain ⟨q1,q2⟩:=Tab.XE (key:=fun x:oC=>x.1.key) (by rw [hds];exact hpm) (by rw [hds];exact hst)
  have hl':d'.toList.length=l.length:=by rw [q1.length_eq,adu,hds]
  have hS:=Xl (n:=n') (os:=os) hp (flatK (fun x:oC=>slotL aK x.1) 36 d')
  have hsz':(flatK (fun x:oC=>slotL aK x.1) 36 d').size=l.length * 36:=by rw [size_flatK,← adu,hl']
  refine ⟨_,rfl,d'.toList.map (·.1),⟨by rw [← hd];exact q1.map _,aki.2 q2⟩,?_⟩
  refine hS.kC ?_ hn' (by simpa [Sort.putCells] using hc) hcm ?_
  ·rw [← hfl,adu,hsz']
  ·rw [← hfl,← hsz']
   refine XR _ ?_
   have:l.length * 36≤cap * 36:=ajT _ hn'
   omega
end
end Go.Proofs.YtiglchkhikciiaaGreatDoor
namespace Go.Proofs.YtiglchkhikciiaaGreatDoor
open Go Go.Sl Go.ay Go.MapKept Go.RowKit
section
variable {w0 w:World}{F R:List aG}{p B:Nat}{sv v:Value}{k:aj.Bs}{m:aj.Bs→Option (Seg.aU)}{t:Tab.Tb (Seg.aU)}
set_option maxRecDepth 20000 in
theorem WA (hB:B≤13000000) (h:Sat w0 w (aJ p m B::F)) :
  Calls Tryz.prog 155 #[ptr p] w (aO fun v w'=>∃ l:List (Tab.Slot (Seg.aU)),(Tab.Lists m (l.map fun x=>(x.key,x.val))∧(∀ x∈l,x.st=1∧x.key.length=32)∧l.length≤B)∧Sat w0 w' (aC 178 36 v (l.flatMap (slotL aK))::aJ p m B::F)):=by
 obtain ⟨t,sv,⟨ok,is,hb⟩,hR⟩:=aJ.open h
 have hsz:t.slots.length≤56000000:=by have:=ok.size;omega
 have Hlen:=uQ (show ∀ x∈t.slots,(slotL aK x).length=36 from fun x hx=>iT aK x (ok.good.key x hx) 3 (oM _))
 obtain ⟨la,lc,rfl⟩:=iD Hlen.out (Sat.rd (hR.pick aZ)) aN
 have bU:=uQ ok;have iK:=uQ is;have Hb:=uQ hb;have gq:=uQ hsz;have iV:=uQ ok.good.jG
 clear h ok is hb hB
 have hS0:Sat w0 w (aC 178 36 (.slice none 0 0) []::fU p 180 (.slice la t.slots.length lc) t.n t.gone::aC 178 36 (.slice la t.slots.length lc) (t.slots.flatMap (slotL aK))::F):=Sat.fD.2 hR
 clear hR
 go_enter Tryz.func155,Tryz.ntmps155
 go_wp2_with fail
 refine (zS iV.out (hS0.pick aZ)).mono ?_
 rintro ee w7 ⟨v,rfl,rfl,rfl⟩
 go_wp2_with ((with_reducible refine bD ⟨?_⟩);refine dV hS0 ah aY bF ak au ?_)
 go_loopg [3,14] t.slots.length (fun g oq iq wr=>∃ (i:Nat),g=t.slots.length - i∧i≤t.slots.length∧iq = .int .i64 i ∧
  Sat w0 wr (aC 178 36 oq (((t.slots.take i).filter fun x=>decide (x.st=1)).flatMap (slotL aK))::fU p 180 (.slice la t.slots.length lc) t.n t.gone::aC 178 36 (.slice la t.slots.length lc) (t.slots.flatMap (slotL aK))::F))
 case atStart=>exact ⟨0,rfl,afm _,rfl,hS0⟩
 case round=>
  obtain ⟨i,rfl,hi,rfl,hS⟩:=hrel
  clear hS0
  by_cases hlt:i<t.slots.length
  rotate_left
  ·obtain rfl:i=t.slots.length:=by omega
   have c1:¬ (t.slots.length:Int)<(t.slots.length:Int):=oQ
   rw [aiv]at hS
   have hfk:∀ x∈t.slots.filter fun x=>decide (x.st=1),x.key.length=32:=fun x hx=>bU.out.good.key x (aji.1 hx).1
   have hs:=ahD (t.slots.filter fun x=>decide (x.st=1)) hfk (adr (akD _ _) (adr hsz aN)) hS
   clear hlt hi hS hfk
   go_wp2_with fail
   refine hs.mono ?_
   rintro ee w8 ⟨v,rfl,l,⟨h1,h2⟩,iR⟩
   clear hs
   have Hl:=uQ (Tab.LK bU.out.good iK.out h1 h2)
   have Hll:=uQ (show l.length≤B from by
    rw [h1.length_eq,← List.countP_eq_length_filter]
    have e:t.slots.countP (fun x=>decide (x.st=1))=Tab.jB t.slots:=by
     unfold Tab.jB
     refine List.countP_congr fun x _=>?_
     simp
    have:=bU.out.n;have:=Hb.out;omega)
   clear h1 h2
   go_wp2_with fail
   go_ret
   exact ⟨_,rfl,l,⟨Hl.out.1,Hl.out.2,Hll.out⟩,Sat.VN (aJ.shut bU.out iK.out Hb.out (iR.sb))⟩
  have c1:(i:Int)<(t.slots.length:Int):=oQ
  have hwi:=vU (i:=i)
  obtain ⟨x,hx⟩:∃ x,t.slots[i]?=some x:=⟨_,aak hlt⟩
  have hxm:=abA hx
  have hst:=bU.out.good.st x hxm
  have Hxk:=uQ (bU.out.good.key x hxm)
  obtain ⟨bk,off,c',hsv,hcell⟩:=iC Hlen.out (Sat.rd (hS.pick fG)) hx aN
  cases hsv
  have fP:=Hlen.out x hxm
  have htk:(t.slots.take (i+1)).filter (fun x=>decide (x.st=1))=(t.slots.take i).filter (fun x=>decide (x.st=1))++[x].filter fun x=>decide (x.st=1):=by
   rw [ajL,hx,ajY,List.filter_append]
  have fB:=uQ htk
  have bT:=uQ hlt
  have CJ:(((t.slots.take i).filter fun x=>decide (x.st=1)).flatMap (slotL aK)).length≤2147483648:=by
   rw [iE fun y hy=>Hlen.out y (ajm (aji.1 hy).1)]
   have h1:=akD (fun x=>decide (x.st=1)) (t.slots.take i)
   have h2:=akX i t.slots
   have h3:=gq.out
   omega
  clear hx hxm hlt hi htk
  go_wp2_with (first
   |((with_reducible refine bD ⟨?_⟩);refine gU (b:=bk) (o:=off+i * 36) (slotL aK x) ah hcell Tryz.underlying178 rfl (by rw [fP];kernel_rfl) ?_)
   |(with_reducible apply eU))
  refine ⟨dU uN hS rfl ?_⟩
  intro b7 w7 hS7
  go_wp2_with (first|((with_reducible refine bY ⟨?_⟩);refine fE (slotL aK x).toArray hS7 ah ah (by rw [aaI,fP];rfl) bZ (by rw [aaI,fP];kernel_rfl) (by rw [adM];exact lQ aK x (uF _)) ?_;intro w10 dw)|(with_reducible apply bD))
  refine ⟨?_⟩
  clear hS hS7 hcell
  have f0:w10.cell? ⟨b7,0,none⟩=some (.int .i64 x.st):=dw.cellP aT 0 (by rw [abL];rfl)
  by_cases h1:x.st=1
  rotate_left
  ·have hst1:((x.st:Int)==1)=false:=by rw [adW];omega
   have e9:(t.slots.take (i+1)).filter (fun x=>decide (x.st=1))=(t.slots.take i).filter (fun x=>decide (x.st=1)):=by
    rw [fB.out,alc (by rw [aex h1];decide),List.filter_nil,afo]
   have E9:=uQ e9
   clear h1 e9
   go_wp2_with fail
   go_roundg (t.slots.length - (i+1))
   case measure=>have:=bT.out;omega
   case rel=>exact ⟨i+1,rfl,bT.out,by first|rfl|go_num,by rw [E9.out];exact dw.sb⟩
  ·have hst1:((x.st:Int)==1)=true:=by rw [h1];rfl
   have e9:((t.slots.take (i+1)).filter (fun x=>decide (x.st=1))).flatMap (slotL aK)=((t.slots.take i).filter (fun x=>decide (x.st=1))).flatMap (slotL aK)++slotL aK x:=by
    rw [fB.out,ald (by rw [aiu h1]),List.filter_nil,ajj,ai7,aks,afo]
   have E9:=uQ e9
   clear h1 e9
   go_wp2_with (first
    |((with_reducible refine bD ⟨?_⟩);refine gI dw ah aY Tryz.underlying178 rfl (by rw [aaI,fP];kernel_rfl) ?_)
    |(with_reducible apply ny))
   refine ⟨nH (e:=178) (sz:=36) (dS:=64) au dw ah (cs:=(slotL aK x).toArray) rfl (by rw [aaI,fP]) aN ?_⟩
   intro bN wN hN
   go_wp2_with (with_reducible apply lg)
   refine ⟨nG 178 36 64 au hN ah ah aY aT (by rw [aaI,fP]) (acy 1) (by rw [adM];exact lQ aK x (uF _)) CJ (by rw [aaI,fP];decide) aN (by rw [adM]) ?_⟩
   intro bA nA cA wA hA
   go_wp2_with fail
   rw [← E9.out]at hA
   go_roundg (t.slots.length - (i+1))
   case measure=>have:=bT.out;omega
   case rel=>exact ⟨i+1,rfl,bT.out,by first|rfl|go_num,hA.sb⟩
end
end Go.Proofs.YtiglchkhikciiaaGreatDoor
namespace Go.Tab
open Go.aj (Bs)
open Go.Seg (aU)
open Go.Rep (dF)
section
variable {V:Type}
def mapOf (l:List (Bs×V)):Bs→Option V:=l.foldl (fun m p=>put m p.1 p.2) fun _=>none
theorem LX (l:List (Bs×V)) (p:Bs×V):mapOf (l++[p])=put (mapOf l) p.1 p.2:=by unfold mapOf;rw [ak1];rfl
theorem U2:∀ (n:Nat){l:List (Bs×V)},l.length=n→l.Pairwise (fun a b=>a.1<b.1)→∀ k v,(k,v)∈l↔mapOf l k=some v
 |0,l,hn,_,k,v=>by
  obtain rfl:l=[]:=aj2 hn
  exact ⟨(fun h=>by cases h),(fun h=>by cases h)⟩
 |n+1,l,hn,hs,k,v=>by
  obtain ⟨l',p,rfl⟩:∃ l' p,l=l'++[p]:=⟨l.dropLast,l.getLast (by intro e;rw [e]at hn;cases hn),(List.dropLast_concat_getLast _).symm⟩
  have hn':l'.length=n:=by rw [aal]at hn;simpa using hn
  obtain ⟨s1,_,s3⟩:=List.pairwise_append.1 hs
  have ih:=U2 n hn' s1 k v
  rw [LX,ajk,aiR]
  show _↔(if k=p.1 then some p.2 else mapOf l' k)=some v
  by_cases hk:k=p.1
  ·rw [ac3 hk]
   constructor
   ·rintro (h|h)
    ·exact absurd (hk ▸ s3 _ h p (.head _)) (ak2 _)
    ·rw [← h]
   ·intro h;exact .inr (by rw [hk,← ake h])
  ·rw [abw hk,← ih]
   exact ⟨fun h=>h.elim id fun e=>absurd (aje Prod.fst e) hk,.inl⟩
theorem U1 {l:List (Bs×V)} (hs:l.Pairwise fun a b=>a.1<b.1):Lists (mapOf l) l:=⟨hs,U2 _ rfl hs⟩
end
end Go.Tab
namespace Go.Rep
open Go.aj (Bs)
open Go.Tab
theorem VZ (l:List (Bs×dF)) (p:Bs×dF):puts (l++[p])=if p.2.tag=0 then puts l++[(p.1,p.2.place)] else puts l:=by
 unfold puts
 rw [List.filter_append]
 by_cases h:p.2.tag=0
 ·rw [ac3 h,ald (by rw [aiu h]),List.filter_nil,aey];rfl
 ·rw [abw h,alc (by rw [aex h];decide),List.filter_nil,afo]
theorem MQ {l:List (Bs×dF)} (h:l.Pairwise fun a b=>a.1<b.1):(puts l).Pairwise fun a b=>a.1<b.1:=by
 unfold puts
 rw [aki]
 exact h.filter _
theorem Dl (s:Int):∀ (l:List (Bs×dF)) (p:Bs×dF),fF s (l++[p])=fF s l+(if counts p.2=true∧p.2.place.seg=s then p.2.place.size else 0)
 |[],p=>by simp [fF]
 |q::l,p=>by
  have:=Dl s l p
  simp only [ajN,fF]
  omega
theorem LM (s:Int){b:Int} (hb:0≤b):∀ (l:List (Bs×dF)),(∀ p∈l,0≤p.2.place.size∧p.2.place.size≤b)→0≤fF s l∧fF s l≤b * l.length
 |[],_=>by simp [fF]
 |q::l,h=>by
  obtain ⟨i1,i2⟩:=LM s hb l fun p hp=>h p (.tail _ hp)
  obtain ⟨j1,j2⟩:=h q (.head _)
  have e:b * ((q::l).length:Int)=b * l.length+b:=by rw [aja,Int.natCast_succ,Int.mul_add,Int.mul_one]
  rw [e]
  simp only [fF]
  split <;> omega
end Go.Rep
namespace Go.Proofs.YtiglchkhikciiaaGreatDoor
open Go Go.Sl Go.ay Go.MapKept Go.RowKit
def jr (b:Nat) (f:Int→Int):aG:=fun h=>∃ l:List (Value×Value),((∀ p∈l,∃ k v:Int,p=(.int .i64 k,.int .i64 v)∧f k=v)∧∀ k:Int,(∀ p∈l,p.1 ≠ .int .i64 k)→f k=0)∧omap (.int .i64) b l h
section
variable {w0 w:World}{R:List aG}{b:Nat}{f:Int→Int}{l:List (Value×Value)}
theorem Um (h:Sat w0 w (jr b f::R)):∃ l:List (Value×Value),((∀ p∈l,∃ k v:Int,p=(.int .i64 k,.int .i64 v)∧f k=v)∧∀ k:Int,(∀ p∈l,p.1 ≠ .int .i64 k)→f k=0)∧Sat w0 w (omap (.int .i64) b l::R):=by
 obtain ⟨ha,x,hx,p,q,dd,rfl,⟨l,h1,h2⟩,hq⟩:=h
 exact ⟨l,h1,ha,_,hx,p,q,dd,rfl,h2,hq⟩
theorem Un (h1:∀ p∈l,∃ k v:Int,p=(.int .i64 k,.int .i64 v)∧f k=v) (h2:∀ k:Int,(∀ p∈l,p.1 ≠ .int .i64 k)→f k=0) (h:Sat w0 w (omap (.int .i64) b l::R)):Sat w0 w (jr b f::R):=
 h.head fun _ hx=>⟨l,⟨h1,h2⟩,hx⟩
theorem Ul (h:Sat w0 w R):Sat w0 (w.alloc (.map #[] 0)) (jr w.heap.size (fun _=>0)::R):=Un (by simp) (fun _ _=>rfl) (h.F7 (.int .i64))
theorem Fj (k:Int) (h:Sat w0 w (jr b f::R)):(Instr.lookup 205 (.map (some b)) (.int .i64 k) false).run Tryz.prog w = .ok (.int .i64 (f k)) w:=by
 obtain ⟨l,⟨h1,h2⟩,hS⟩:=Um h
 rcases Xh (key:= .int .i64 k) Tryz.underlying205 Tryz.underlying3 (z:= .int .i64 0) au rfl hS with ⟨v,hm,e,_⟩|⟨hn,e,_⟩
 ·obtain ⟨k',v',hp,hf⟩:=h1 _ hm
  cases hp
  rw [e,hf]
 ·rw [e,h2 k hn]
theorem Lj (k v:Int) (h:Sat w0 w (jr b f::R)):∃ w',(Instr.mapUpdate 205 (.map (some b)) (.int .i64 k) (.int .i64 v)).run Tryz.prog w = .ok () w'∧Sat w0 w' (jr b (fun s=>if s=k then v else f s)::R):=by
 obtain ⟨l,⟨h1,h2⟩,hS⟩:=Um h
 obtain ⟨w',hr,hs⟩:=Sl.run_store (key:= .int .i64 k) Tryz.underlying205 Tryz.underlying3 rfl (.int .i64 v) hS
 refine ⟨w',hr,?_⟩
 have hnd:=hS.F6
 obtain ⟨l0,hl0,hne,hin,hout⟩:∃ l0:List (Value×Value),(l.Perm l0∧(∀ p∈l0,p.1 ≠ .int .i64 k)∨∃ v0,l.Perm ((.int .i64 k,v0)::l0))∧(∀ p∈l0,p.1 ≠ .int .i64 k)∧(∀ p∈l0,p∈l)∧∀ p∈l,p.1 ≠ .int .i64 k→p∈l0:=by
  by_cases hk:∃ p∈l,p.1 = .int .i64 k
  ·obtain ⟨⟨_,v0⟩,hm,rfl⟩:=hk
   obtain ⟨l1,l2,e12⟩:=List.append_of_mem hm
   have hp:l.Perm ((.int .i64 k,v0)::(l1++l2)):=by rw [e12];exact akM
   have TP:=(hp.map (·.1)).nodup_iff.1 hnd
   rw [ag8,akx]at TP
   exact ⟨_,.inr ⟨v0,hp⟩,fun p hp' e=>TP.1 (acK.2 ⟨p,hp',e⟩),fun p hp'=>hp.mem_iff.2 (.tail _ hp'),fun p hp' hne=>by
    rcases aer.1 (hp.mem_iff.1 hp') with e|e
    ·exact absurd (by rw [e]) hne
    ·exact e⟩
  ·have hk':∀ p∈l,p.1 ≠ .int .i64 k:=fun p hp e=>hk ⟨p,hp,e⟩
   exact ⟨l,.inl ⟨.refl _,hk'⟩,hk',fun _ h=>h,fun _ h _=>h⟩
 refine Un (l:=(.int .i64 k,.int .i64 v)::l0) ?_ ?_ (hs l0 hl0)
 ·intro p hp
  rcases aer.1 hp with rfl|hp
  ·exact ⟨k,v,rfl,ac3 rfl⟩
  ·obtain ⟨k',v',rfl,hf⟩:=h1 p (hin p hp)
   refine ⟨k',v',rfl,?_⟩
   show (if k'=k then v else f k')=v'
   rw [abw (fun e=>hne _ hp (by rw [e])),hf]
 ·intro k' hk'
  have hkk:k'≠k:=fun e=>hk' _ (.head _) (by rw [e])
  show (if k'=k then v else f k')=0
  rw [abw hkk]
  refine h2 k' fun p hp e=>?_
  exact hk' p (.tail _ (hout p hp (fun e2=>hkk (by rw [e2]at e;cases e;rfl)))) e
end
section
variable {w0 w:World}{R:List aG}{p B B':Nat}{m:aj.Bs→Option Seg.aU}
theorem aJ.mono (hB:B≤B') (h:Sat w0 w (aJ p m B::R)):Sat w0 w (aJ p m B'::R):=by
 obtain ⟨t,sv,⟨ok,is,hb⟩,hS⟩:=aJ.open h
 exact aJ.shut ok is (adr hb hB) hS
end
section
variable {w0 w:World}{F:List aG}
set_option maxRecDepth 20000 in
theorem Qw (x:Rep.dF) (h:Sat w0 w F):Calls Tryz.prog 208 #[.agg (bf x).toArray] w (aO fun v w'=>v = .bool (Rep.counts x)∧Sat w0 w' F):=by
 obtain ⟨tag,⟨seg,at_,size⟩,first⟩:=x
 show Calls Tryz.prog 208 #[.agg #[.int .i64 tag,.int .i64 seg,.int .i64 at_,.int .i64 size,.int .i64 first]] w _
 have Hc:=uQ (show ∀ c,c=(decide (tag=0) || (decide (0≤first) && decide (first<seg)))→c=Rep.counts ⟨tag,⟨seg,at_,size⟩,first⟩ from fun c hc=>hc)
 go_enter Tryz.func208,Tryz.ntmps208
 go_wp2_with (first|((with_reducible refine eG ⟨?_⟩);refine eH aQ ak ak ?_;intro bB wB hB)|(with_reducible apply bD))
 refine ⟨?_⟩
 have f0:wB.cell? ⟨bB,0,none⟩=some (.int .i64 tag):=hB.cellP aT 0 rfl
 have f1:wB.cell? ⟨bB,1,none⟩=some (.int .i64 seg):=hB.cellP aT 1 rfl
 have f2:wB.cell? ⟨bB,4,none⟩=some (.int .i64 first):=hB.cellP aT 4 rfl
 have HB:=uQ hB.drop
 clear hB h
 by_cases h0:tag=0
 ·have hb:(tag==0)=true:=akr.2 h0
  have e:=Hc.out true (by simp [h0])
  have He:=uQ e
  clear h0 e Hc
  go_wp2_with fail
  go_ret
  exact ⟨_,rfl,aje Value.bool He.out,HB.out⟩
 ·have hb:(tag==0)=false:=by rw [adW];exact h0
  by_cases h1:0≤first
  ·by_cases h2:first<seg
   ·have He:=uQ (Hc.out true (by simp [h0,h1,h2]))
    clear h0 Hc
    go_wp2_with fail
    go_ret
    exact ⟨_,rfl,aje Value.bool He.out,HB.out⟩
   ·have He:=uQ (Hc.out false (by simp [h0,h2]))
    clear h0 Hc
    go_wp2_with fail
    go_ret
    exact ⟨_,rfl,aje Value.bool He.out,HB.out⟩
  ·have He:=uQ (Hc.out false (by simp [h0,h1]))
   clear h0 Hc
   go_wp2_with fail
   go_ret
   exact ⟨_,rfl,aje Value.bool He.out,HB.out⟩
end
end Go.Proofs.YtiglchkhikciiaaGreatDoor
namespace Go.Rep
structure Use where
 seg:Int
 size:Int
 live:Int
def upd (kv:List (aj.Bs×dF)) (u:Use):Use:=⟨u.seg,u.size,fF u.seg kv⟩
def half (kv:List (aj.Bs×dF)) (us:List Use) (i:Nat):List Use:=(us.take i).map (upd kv)++us.drop i
section
variable {kv:List (aj.Bs×dF)}{us:List Use}{i:Nat}{u:Use}
theorem KJ:(half kv us i).length=us.length:=by
 unfold half
 rw [aal,aaJ,← aal,ajs]
theorem acM:half kv us us.length=us.map (upd kv):=by unfold half;rw [aiv,ak9,afo]
theorem acN (h:us[i]?=some u):(half kv us i)[i]?=some u:=by
 unfold half
 have hi:=(abl.1 h).1
 have e:((us.take i).map (upd kv)).length=i:=by rw [aaJ,acJ];omega
 rw [adQ oQ,e,akb,akG,akc];exact h
theorem acO (h:us[i]?=some u):(half kv us i).set i (upd kv u)=half kv us (i+1):=by
 obtain ⟨hi,rfl⟩:=abl.1 h
 have e:((us.take i).map (upd kv)).length=i:=by rw [aaJ,acJ];omega
 unfold half
 rw [List.set_append_right _ _ oQ,e,akb,ajX hi,List.set_cons_zero,ajL,aak hi,ajY,aey,adR]
 rfl
end
end Go.Rep
namespace Go.Proofs.YtiglchkhikciiaaGreatDoor
open Go Go.Sl Go.ay Go.MapKept Go.RowKit
def bI (u:Rep.Use):List Value:=[.int .i64 u.seg,.int .i64 u.size,.int .i64 u.live]
theorem uK (u:Rep.Use):(bI u).length=3:=rfl
theorem Ir:jy Tryz.prog 73=some (.agg (bI ⟨0,0,0⟩).toArray):=by kernel_rfl
theorem ai5:jy Tryz.prog 205=some (.map none):=by kernel_rfl
theorem Yv:jy Tryz.prog 31=some (.agg (aA aj.zero32).toArray):=by kernel_rfl
abbrev cZ (ps:Nat) (last:Int) (pi:Nat) (uv tv:Value):aG:=pt ps (.cells #[.int .i64 last,ptr pi,uv,tv] 52 (0,0))
def Rk (F:List aG) (ps b2 b3 b4 bm pi pg:Nat) (last:Int) (uv tv:Value) (us:List Rep.Use) (kv:List (aj.Bs×Rep.dF)) (pre:List (Array Value)):List aG:=
 cZ ps last pi uv tv::pt b2 (.cells #[ptr ps] 53 (0,0))::pt b4 (.cells #[.map (some bm)] 205 (0,0))::jr bm (fun s=>Rep.fF s (kv.take pre.length)) ::
 aJ pi (Tab.mapOf (Rep.puts (kv.take pre.length))) pre.length::aC 73 3 uv (us.flatMap bI)::pt b3 (.cells #[ptr pg] 250 (0,0))::F
section
variable {w0 w:World}{F:List aG}{ps pi pg B:Nat}{last:Int}{uv tv:Value}{us:List Rep.Use}{m:aj.Bs→Option Rep.dF}{kv:List (aj.Bs×Rep.dF)}
set_option maxRecDepth 20000 in
theorem abZ (hl:Tab.Lists m kv) (hB:B≤13000000) (hkl:kv.length≤13000000) (hks:∀ p∈kv,p.1.length=32∧0≤p.2.place.size∧p.2.place.size≤4294967296) (hu:us.length≤13000000)
  (h:Sat w0 w (cZ ps last pi uv tv::aJ pi (fun _=>none) 0::dY pg m B::aC 73 3 uv (us.flatMap bI)::F)) :
  Calls Tryz.prog 152 #[ptr ps,.agg #[ptr pg]] w (aO fun _ w'=>Sat w0 w' (cZ ps last pi uv tv::aJ pi (Tab.mapOf (Rep.puts kv)) kv.length::dY pg m B::aC 73 3 uv ((us.map (Rep.upd kv)).flatMap bI)::F)):=by
 have Hl:=uQ hl;have HB:=uQ hB;have jZ:=uQ hkl;have gJ:=uQ hks;have Hu:=uQ hu
 have Hlen:=uQ (show ∀ u∈us,(bI u).length=3 from fun u _=>rfl)
 clear hl hB hkl hks hu
 have hmm:=@run_makeMap Tryz.prog
 refine Qq Tryz.func152 rfl ?_
 simp only [Tryz.ntmps152,aaI,aja,ajn,Nat.reduceAdd,Nat.reduceSub,Array.replicate_succ,Array.replicate_zero,List.push_toArray,List.append_toArray,ajd,ajN]
 go_wp2_with (with_reducible apply eG)
 refine ⟨eH h ak ak ?_⟩
 intro b2 w2 h2
 go_wp2_with (with_reducible apply eG)
 refine ⟨eH h2 ak ak ?_⟩
 intro b3 w3 h3
 have SK:=Ul h3
 go_wp2_with (with_reducible apply eU)
 refine ⟨dU ai5 SK rfl ?_⟩
 intro b4 w4 h4
 generalize w3.heap.size=bm at *
 go_wp2_with (first
  |((with_reducible refine bY ⟨?_⟩);refine eY h4 ah ak ah bZ bF au ah ?_;intro w5 h5)
  |((with_reducible refine bD ⟨?_⟩);refine dV h5 ah aY bF ak au ?_))
 refine (ZR h5).mono ?_
 rintro ee w6 ⟨v,rfl,bA,rfl,h6⟩
 go_wp2_with fail
 have h7:Sat w0 w6 (dY pg m B::pt bA (.cells #[ptr pg] 245 (0,0))::cZ ps last pi uv tv::pt b2 (.cells #[ptr ps] 53 (0,0))::pt b4 (.cells #[.map (some bm)] 205 (0,0))::jr bm (fun _=>0) ::
   aJ pi (fun _=>none) 0::aC 73 3 uv (us.flatMap bI)::pt b3 (.cells #[ptr pg] 250 (0,0))::F):=h6.sb
 clear h h2 h3 SK h4 h5 h6 hmm
 refine Ym (gf:=243) (lb:=#[ptr bA]) ah (fun args w=>by kernel_rfl) (ZQ HB.out Hl.out) ?_ (Rk F ps b2 b3 b4 bm pi pg last uv tv us kv) h7 ?_ ?_
 ·intro x hx
  obtain ⟨p,_,rfl⟩:=acK.1 hx
  rfl
 ·clear h7
  intro l pre x post U W hkv hS T hT
  obtain ⟨i,hi⟩:∃ i,i=pre.length:=⟨_,rfl⟩
  have hlt:i<kv.length:=by
   have:=aje List.length hkv
   rw [aaJ,aal,aja]at this
   omega
  obtain ⟨⟨k,y⟩,hy⟩:∃ p,kv[i]?=some p:=⟨_,aak hlt⟩
  obtain rfl:x=oD (k,y):=by
   have e1:(kv.map oD)[i]?=some (oD (k,y)):=by rw [aix,hy];rfl
   rw [hkv,hi,adQ (acy _),akb,alg]at e1
   exact ake e1
  have hmem:=abA hy
  obtain ⟨Cm,hs0,hs1⟩:=gJ.out _ hmem
  have htk:kv.take (i+1)=kv.take i++[(k,y)]:=by rw [ajL,hy,ajY]
  have hil:(pre++[oD (k,y)]).length=i+1:=by rw [aal,hi];rfl
  have fB:=uQ htk;have yZ:=uQ hil;have Hi:=uQ hi;have bT:=uQ hlt;have mY:=uQ Cm;have Hs:=uQ (And.intro hs0 hs1)
  have hS0:Sat w0 W (cZ ps last pi uv tv::pt b2 (.cells #[ptr ps] 53 (0,0))::pt b4 (.cells #[.map (some bm)] 205 (0,0))::jr bm (fun s=>Rep.fF s (kv.take i)) ::
   aJ pi (Tab.mapOf (Rep.puts (kv.take i))) i::aC 73 3 uv (us.flatMap bI)::pt b3 (.cells #[ptr pg] 250 (0,0))::(F++U)):=by rw [hi];exact hS
  clear hkv hS hi hlt hy hmem Cm hs0 hs1 htk hil
  simp [oD]at hT
  subst hT
  refine wpIn_seq_k fun K hK=>?_
  refine sG ah fun K2 hK2=>?_
  go_wp2_with (with_reducible apply eU)
  refine ⟨dU Yv hS0 rfl ?_⟩
  intro b5 w5 h5
  go_wp2_with ((with_reducible refine bY ⟨?_⟩);refine fE (aA k).toArray h5 ah ah (by rw [aaI,aV,mY.out];rfl) bZ (by rw [aaI,aV,mY.out];kernel_rfl) (by rw [adM];exact qJ _) ?_;intro w6 h6)
  refine sG ah fun K3 hK3=>?_
  go_wp2_with (with_reducible apply eU)
  refine ⟨dU D5 h6 rfl ?_⟩
  intro b6 w7 h7
  go_wp2_with ((with_reducible refine bY ⟨?_⟩);refine fE (bf y).toArray h7 ah ah ah bZ au ah ?_;intro w8 h8)
  -- the body
  refine ⟨pt b6 (.cells (bf y).toArray 248 (0,0))::pt b5 (.cells (aA k).toArray 31 (0,0))::cZ ps last pi uv tv::pt b2 (.cells #[ptr ps] 53 (0,0))::pt b4 (.cells #[.map (some bm)] 205 (0,0))::jr bm (fun s=>Rep.fF s (kv.take i)) ::
   aJ pi (Tab.mapOf (Rep.puts (kv.take i))) i::aC 73 3 uv (us.flatMap bI)::pt b3 (.cells #[ptr pg] 250 (0,0))::F,h8,?_⟩
  clear h8 h7 h6 h5 hS0
  intro U' w9 h9
  have h10:Sat w0 w9 (pt b6 (.cells (bf y).toArray 248 (0,0))::pt b5 (.cells (aA k).toArray 31 (0,0))::cZ ps last pi uv tv::pt b2 (.cells #[ptr ps] 53 (0,0))::pt b4 (.cells #[.map (some bm)] 205 (0,0))::jr bm (fun s=>Rep.fF s (kv.take i)) ::
   aJ pi (Tab.mapOf (Rep.puts (kv.take i))) i::aC 73 3 uv (us.flatMap bI)::pt b3 (.cells #[ptr pg] 250 (0,0))::(F++U')):=h9
  clear h9
  have f0:w9.cell? ⟨b6,0,none⟩=some (.int .i64 y.tag):=h10.cellP aT 0 rfl
  refine wpIn_block (wpIn_seq_k fun K4 hK4=>wpIn_seq_k fun K5 hK5=>sG ah fun K6 hK6=>?_)
  by_cases ht:y.tag=0
  ·have hb:(y.tag==0)=true:=akr.2 ht
   have Bh:=uQ (show Tab.mapOf (Rep.puts (kv.take (i+1)))=Tab.put (Tab.mapOf (Rep.puts (kv.take i))) k y.place by rw [fB.out,Rep.VZ,ac3 ht,Tab.LX])
   clear ht
   go_wp2_with fail
   refine wpIn_cond_true ah ?_
   have h11:=h10.drew
   have hG:w9.drew.cell? ⟨b2,0,none⟩=some (ptr ps)∧w9.drew.cell? ⟨ps,1,none⟩=some (ptr pi)∧w9.drew.rangeAt b5 0 (aA k)∧w9.drew.rangeAt b6 1 (aK y.place):=
    ⟨h11.cellP (aW (aW (aW aT))) 0 rfl,h11.cellP (aW (aW aT)) 1 rfl,oN (h11.pick (aW aT)),fun j v hj=>by
     refine h11.cellP aT (1+j) ?_
     rw [abL,alm]
     have hj3:j<3:=(abl.1 hj).1
     rcases j with _|_|_|j
     ·exact hj
     ·exact hj
     ·exact hj
     ·omega⟩
   refine af4 [7] (fun w'=>w'.cell? ⟨b2,0,none⟩=some (ptr ps)∧w'.cell? ⟨ps,1,none⟩=some (ptr pi)∧w'.rangeAt b5 0 (aA k)∧w'.rangeAt b6 1 (aK y.place)) ah au fun K7 hK7=>?_
   refine rt 0 (h:=?_)
   refine rP 1 ?_ (y:=dZ)
   refine rP 2 ?_ (y:=cO)
   refine rt 3 (h:=?_)
   refine eP 4 ak au bK (ig (b:=b5) (o:=0) (aA k) ah Tryz.underlying31 rfl (by rw [aV,mY.out];kernel_rfl) (fun w hw=>hw.2.2.1)) aQ gQ ?_
   refine rP 5 ?_ (y:=cO)
   refine eP 6 ak au bK (ig (b:=b6) (o:=1) (aK y.place) ah Tryz.underlying116 rfl au (fun w hw=>hw.2.2.2)) aQ gQ ?_
   clear hG
   have hp:=Gi (B:=i) (p:=pi) (by have:=bT.out;have:=jZ.out;omega) mY.out y.place (h11.sb:Sat w0 w9.drew (aJ pi (Tab.mapOf (Rep.puts (kv.take i))) i::pt b6 (.cells (bf y).toArray 248 (0,0))::pt b5 (.cells (aA k).toArray 31 (0,0))::pt b2 (.cells #[ptr ps] 53 (0,0))::pt b4 (.cells #[.map (some bm)] 205 (0,0))::jr bm (fun s=>Rep.fF s (kv.take i))::cZ ps last pi uv tv::aC 73 3 uv (us.flatMap bI)::pt b3 (.cells #[ptr pg] 250 (0,0))::(F++U')))
   clear h10 h11 f0
   refine bV 7 ak au (fun K' hK'=>?_)
   (refine vI au ak ak ak ?_)
   refine hp.mono ?_
   rintro ee jd ⟨v,rfl,h11⟩
   refine hK' _ _ (.inl rfl) ?_
   clear hK' hp
   refine dD au ?_
   rw [← Bh.out]at h11
   have h12:Sat w0 jd (pt b6 (.cells (bf y).toArray 248 (0,0))::pt b5 (.cells (aA k).toArray 31 (0,0))::pt b2 (.cells #[ptr ps] 53 (0,0))::pt b4 (.cells #[.map (some bm)] 205 (0,0))::jr bm (fun s=>Rep.fF s (kv.take i))::cZ ps last pi uv tv ::
    aJ pi (Tab.mapOf (Rep.puts (kv.take (i+1)))) (i+1)::aC 73 3 uv (us.flatMap bI)::pt b3 (.cells #[ptr pg] 250 (0,0))::(F++U')):=h11.sb
   clear h11
   go_wp2_with fail
   refine wpIn_seq_k fun K8 hK8=>?_
   refine sG ah fun K9 hK9=>?_
   go_wp2_with ((with_reducible refine bD ⟨?_⟩);refine gI h12 ah (aT (A:=pt b6 (.cells (bf y).toArray 248 (0,0)))) Tryz.underlying248 rfl au ?_)
   refine (Qw y h12).mono ?_
   rintro ee jF ⟨v,rfl,rfl,h13⟩
   clear h12
   by_cases hc:Rep.counts y=true
   ·have hlv:(fun s=>Rep.fF s (kv.take (i+1)))=fun s=>if s=y.place.seg then Rep.fF y.place.seg (kv.take i)+y.place.size else Rep.fF s (kv.take i):=by
     funext s
     rw [fB.out,Rep.Dl]
     by_cases e:s=y.place.seg
     ·subst e;simp [hc]
     ·simp only [hc,true_and,abw e];rw [abw (fun h=>e h.symm),Int.add_zero]
    have Hlv:=uQ hlv
    have hlk:=Fj y.place.seg (h13.pick (aW (aW (aW (aW aT)))))
    obtain ⟨kR,hup,gW⟩:=Lj y.place.seg (Rep.fF y.place.seg (kv.take i)+y.place.size) (h13.pick (aW (aW (aW (aW aT)))))
    obtain ⟨q1,q2⟩:=Rep.LM y.place.seg (b:=4294967296) aN (kv.take i) fun p hp=>(gJ.out p (ajm hp)).2
    have q3:(kv.take i).length≤13000000:=adr (akX i kv) jZ.out
    have q4:=Hs.out
    have hwa:IntKind.i64.wrap (Rep.fF y.place.seg (kv.take i)+y.place.size)=Rep.fF y.place.seg (kv.take i)+y.place.size:=acI _ oQ
    have hwb:wrap64 (Rep.fF y.place.seg (kv.take i)+y.place.size)=Rep.fF y.place.seg (kv.take i)+y.place.size:=ajM _ oQ
    clear q1 q2 q3 q4 hlv
    have e0:jF.cell? ⟨b4,0,none⟩=some (.map (some bm)):=h13.cellP (aW (aW (aW aT))) 0 rfl
    have e1:jF.cell? ⟨b6,1,none⟩=some (.int .i64 y.place.seg):=h13.cellP aT 1 rfl
    have e2:jF.cell? ⟨b6,3,none⟩=some (.int .i64 y.place.size):=h13.cellP aT 3 rfl
    rw [hc]
    clear h13 hc
    go_wp2_with fail
    refine wpIn_cond_true ah ?_
    refine sG ah fun K10 hK10=>?_
    go_wp2_with fail
    rw [← Hlv.out]at gW
    refine ⟨trivial,?_⟩
    have h15:Sat w0 kR (cZ ps last pi uv tv::pt b2 (.cells #[ptr ps] 53 (0,0))::pt b4 (.cells #[.map (some bm)] 205 (0,0))::jr bm (fun s=>Rep.fF s (kv.take (i+1))) ::
     aJ pi (Tab.mapOf (Rep.puts (kv.take (i+1)))) (i+1)::aC 73 3 uv (us.flatMap bI)::pt b3 (.cells #[ptr pg] 250 (0,0))::(F++U')):=gW.sb
    rw [← yZ.out]at h15
    exact h15
   ·have hlv:(fun s=>Rep.fF s (kv.take (i+1)))=fun s=>Rep.fF s (kv.take i):=by
     funext s
     rw [fB.out,Rep.Dl,abw (fun h=>hc h.1),Int.add_zero]
    have Hlv:=uQ hlv
    rw [Bool.not_eq_true]at hc
    rw [hc]
    clear hlv hc
    go_wp2_with fail
    refine wpIn_cond_false ah ?_
    refine wpIn_skip ?_
    go_wp2_with fail
    rw [← Hlv.out]at h13
    refine ⟨trivial,?_⟩
    have h15:Sat w0 jF (cZ ps last pi uv tv::pt b2 (.cells #[ptr ps] 53 (0,0))::pt b4 (.cells #[.map (some bm)] 205 (0,0))::jr bm (fun s=>Rep.fF s (kv.take (i+1))) ::
     aJ pi (Tab.mapOf (Rep.puts (kv.take (i+1)))) (i+1)::aC 73 3 uv (us.flatMap bI)::pt b3 (.cells #[ptr pg] 250 (0,0))::(F++U')):=h13.sb
    rw [← yZ.out]at h15
    exact h15
  ·have hb:(y.tag==0)=false:=by rw [adW];exact ht
   have Bh:=uQ (show Tab.mapOf (Rep.puts (kv.take (i+1)))=Tab.mapOf (Rep.puts (kv.take i)) by rw [fB.out,Rep.VZ,abw ht])
   clear ht
   go_wp2_with fail
   refine wpIn_cond_false ah ?_
   refine wpIn_skip ?_
   go_wp2_with fail
   rw [← Bh.out]at h10
   have h11:=aJ.mono (aj8 i) (h10.pick (aW (aW (aW (aW (aW (aW aT)))))))
   have h12:Sat w0 w9 (pt b6 (.cells (bf y).toArray 248 (0,0))::pt b5 (.cells (aA k).toArray 31 (0,0))::pt b2 (.cells #[ptr ps] 53 (0,0))::pt b4 (.cells #[.map (some bm)] 205 (0,0))::jr bm (fun s=>Rep.fF s (kv.take i))::cZ ps last pi uv tv ::
    aJ pi (Tab.mapOf (Rep.puts (kv.take (i+1)))) (i+1)::aC 73 3 uv (us.flatMap bI)::pt b3 (.cells #[ptr pg] 250 (0,0))::(F++U')):=h11.sb
   clear h10 h11 f0
   refine wpIn_seq_k fun K8 hK8=>?_
   refine sG ah fun K9 hK9=>?_
   go_wp2_with ((with_reducible refine bD ⟨?_⟩);refine gI h12 ah (aT (A:=pt b6 (.cells (bf y).toArray 248 (0,0)))) Tryz.underlying248 rfl au ?_)
   refine (Qw y h12).mono ?_
   rintro ee jF ⟨v,rfl,rfl,h13⟩
   clear h12
   by_cases hc:Rep.counts y=true
   ·have hlv:(fun s=>Rep.fF s (kv.take (i+1)))=fun s=>if s=y.place.seg then Rep.fF y.place.seg (kv.take i)+y.place.size else Rep.fF s (kv.take i):=by
     funext s
     rw [fB.out,Rep.Dl]
     by_cases e:s=y.place.seg
     ·subst e;simp [hc]
     ·simp only [hc,true_and,abw e];rw [abw (fun h=>e h.symm),Int.add_zero]
    have Hlv:=uQ hlv
    have hlk:=Fj y.place.seg (h13.pick (aW (aW (aW (aW aT)))))
    obtain ⟨kR,hup,gW⟩:=Lj y.place.seg (Rep.fF y.place.seg (kv.take i)+y.place.size) (h13.pick (aW (aW (aW (aW aT)))))
    obtain ⟨q1,q2⟩:=Rep.LM y.place.seg (b:=4294967296) aN (kv.take i) fun p hp=>(gJ.out p (ajm hp)).2
    have q3:(kv.take i).length≤13000000:=adr (akX i kv) jZ.out
    have q4:=Hs.out
    have hwa:IntKind.i64.wrap (Rep.fF y.place.seg (kv.take i)+y.place.size)=Rep.fF y.place.seg (kv.take i)+y.place.size:=acI _ oQ
    have hwb:wrap64 (Rep.fF y.place.seg (kv.take i)+y.place.size)=Rep.fF y.place.seg (kv.take i)+y.place.size:=ajM _ oQ
    clear q1 q2 q3 q4 hlv
    have e0:jF.cell? ⟨b4,0,none⟩=some (.map (some bm)):=h13.cellP (aW (aW (aW aT))) 0 rfl
    have e1:jF.cell? ⟨b6,1,none⟩=some (.int .i64 y.place.seg):=h13.cellP aT 1 rfl
    have e2:jF.cell? ⟨b6,3,none⟩=some (.int .i64 y.place.size):=h13.cellP aT 3 rfl
    rw [hc]
    clear h13 hc
    go_wp2_with fail
    refine wpIn_cond_true ah ?_
    refine sG ah fun K10 hK10=>?_
    go_wp2_with fail
    rw [← Hlv.out]at gW
    refine ⟨trivial,?_⟩
    have h15:Sat w0 kR (cZ ps last pi uv tv::pt b2 (.cells #[ptr ps] 53 (0,0))::pt b4 (.cells #[.map (some bm)] 205 (0,0))::jr bm (fun s=>Rep.fF s (kv.take (i+1))) ::
     aJ pi (Tab.mapOf (Rep.puts (kv.take (i+1)))) (i+1)::aC 73 3 uv (us.flatMap bI)::pt b3 (.cells #[ptr pg] 250 (0,0))::(F++U')):=gW.sb
    rw [← yZ.out]at h15
    exact h15
   ·have hlv:(fun s=>Rep.fF s (kv.take (i+1)))=fun s=>Rep.fF s (kv.take i):=by
     funext s
     rw [fB.out,Rep.Dl,abw (fun h=>hc h.1),Int.add_zero]
    have Hlv:=uQ hlv
    rw [Bool.not_eq_true]at hc
    rw [hc]
    clear hlv hc
    go_wp2_with fail
    refine wpIn_cond_false ah ?_
    refine wpIn_skip ?_
    go_wp2_with fail
    rw [← Hlv.out]at h13
    refine ⟨trivial,?_⟩
    have h15:Sat w0 jF (cZ ps last pi uv tv::pt b2 (.cells #[ptr ps] 53 (0,0))::pt b4 (.cells #[.map (some bm)] 205 (0,0))::jr bm (fun s=>Rep.fF s (kv.take (i+1))) ::
     aJ pi (Tab.mapOf (Rep.puts (kv.take (i+1)))) (i+1)::aC 73 3 uv (us.flatMap bI)::pt b3 (.cells #[ptr pg] 250 (0,0))::(F++U')):=h13.sb
    rw [← yZ.out]at h15
    exact h15
 ·intro D w8 h8
  have h9:Sat w0 w8 (dY pg m B::pt bA (.cells #[ptr pg] 245 (0,0))::cZ ps last pi uv tv::pt b2 (.cells #[ptr ps] 53 (0,0))::pt b4 (.cells #[.map (some bm)] 205 (0,0))::jr bm (fun s=>Rep.fF s kv) ::
   aJ pi (Tab.mapOf (Rep.puts kv)) kv.length::aC 73 3 uv (us.flatMap bI)::pt b3 (.cells #[ptr pg] 250 (0,0))::(F++[pt D (.deferred (some []))])):=by
   have q:=h8
   unfold Rk at q
   rw [aaJ,aiv]at q
   exact q
  have hA:Sat w0 w8 (pt D (.deferred (some []))::dY pg m B::pt bA (.cells #[ptr pg] 245 (0,0))::cZ ps last pi uv tv::pt b2 (.cells #[ptr ps] 53 (0,0))::pt b4 (.cells #[.map (some bm)] 205 (0,0))::jr bm (fun s=>Rep.fF s kv) ::
   aJ pi (Tab.mapOf (Rep.puts kv)) kv.length::aC 73 3 uv (us.flatMap bI)::pt b3 (.cells #[ptr pg] 250 (0,0))::F):=
   Sat.zl (L:=dY pg m B::pt bA (.cells #[ptr pg] 245 (0,0))::cZ ps last pi uv tv::pt b2 (.cells #[ptr ps] 53 (0,0))::pt b4 (.cells #[.map (some bm)] 205 (0,0))::jr bm (fun s=>Rep.fF s kv) ::
    aJ pi (Tab.mapOf (Rep.puts kv)) kv.length::aC 73 3 uv (us.flatMap bI)::pt b3 (.cells #[ptr pg] 250 (0,0))::F) (R:=[pt D (.deferred (some []))]) h9
  clear h7 h8 h9
  have hB2:Sat w0 w8 (aC 73 3 uv ((Rep.half kv us 0).flatMap bI)::cZ ps last pi uv tv::pt b2 (.cells #[ptr ps] 53 (0,0))::pt b4 (.cells #[.map (some bm)] 205 (0,0))::jr bm (fun s=>Rep.fF s kv)::pt D (.deferred (some []))::aJ pi (Tab.mapOf (Rep.puts kv)) kv.length::dY pg m B::F):=hA.sb
  clear hA
  obtain ⟨ua,uc,rfl⟩:=iD (l:=Rep.half kv us 0) (f:=bI) (k:=3) (fun u _=>rfl) (Sat.rd hB2) aN
  rw [Rep.KJ]at hB2
  go_wp2_with ((with_reducible refine bD ⟨?_⟩);refine dV hB2 ah aY bF ak au ?_)
  go_loopg [42] us.length (fun g iq wr=>∃ i:Nat,g=us.length - i∧i≤us.length∧iq = .int .i64 i ∧
   Sat w0 wr (aC 73 3 (.slice ua us.length uc) ((Rep.half kv us i).flatMap bI)::cZ ps last pi (.slice ua us.length uc) tv::pt b2 (.cells #[ptr ps] 53 (0,0))::pt b4 (.cells #[.map (some bm)] 205 (0,0))::jr bm (fun s=>Rep.fF s kv)::pt D (.deferred (some []))::aJ pi (Tab.mapOf (Rep.puts kv)) kv.length::dY pg m B::F))
  case atStart=>exact ⟨0,rfl,afm _,rfl,hB2⟩
  case round=>
   obtain ⟨i,rfl,hi,rfl,hS⟩:=hrel
   clear hB2
   by_cases hlt:i<us.length
   rotate_left
   ·obtain rfl:i=us.length:=by omega
    have c1:¬ (us.length:Int)<(us.length:Int):=oQ
    rw [Rep.acM]at hS
    clear hlt hi
    go_wp2_with fail
    refine abH rfl (hS.pick (aW (aW (aW (aW (aW aT)))))) (fun w=>results_none rfl _ _ _) ?_
    intro w9 h9
    exact ⟨_,rfl,h9.sb⟩
   have c1:(i:Int)<(us.length:Int):=oQ
   have hwi:IntKind.i64.wrap ((i:Int)+1)=(i:Int)+1:=acI _ (by have:=Hu.out;omega)
   obtain ⟨u,hu⟩:∃ u,us[i]?=some u:=⟨_,aak hlt⟩
   have hx:(Rep.half kv us i)[i]?=some u:=Rep.acN hu
   have pW:=uQ (Gz (f:=bI) (k:=3) (o:=2) (x':=Rep.upd kv u) (vs:=[.int .i64 (Rep.fF u.seg kv)]) (fun u _=>rfl) hx ah (by show 2+1≤3;decide))
   rw [Rep.acO hu]at pW
   have hrl:((Rep.half kv us i).flatMap bI).length=3 * us.length:=by rw [iE (k:=3) (f:=bI) fun u _=>rfl,Rep.KJ]
   obtain ⟨bk,off,c',hsv,hcell⟩:=iC (f:=bI) (k:=3) (fun u _=>rfl) (Sat.rd hS) hx aN
   rw [Rep.KJ]at hsv
   cases hsv
   rcases Sat.jQ hS with ⟨e,_⟩|⟨g',n',cap',cs',e,_⟩
   ·cases e
   obtain rfl:off=0:=by injection e with e1;injection e1 with e2;injection e2
   obtain ⟨g',rfl⟩:∃ g,g=bk:=⟨_,rfl⟩
   simp only [aen]at hcell
   have bT:=uQ hlt
   clear hlt hi hu hx
   go_wp2_with (first
    |((with_reducible refine bD ⟨?_⟩);refine gU (o:=i * 3) (bI u) ah hcell Tryz.underlying73 rfl au ?_)
    |(with_reducible apply eU))
   refine ⟨dU Ir hS rfl ?_⟩
   intro b8 w9 iG
   go_wp2_with ((with_reducible refine bY ⟨?_⟩);refine fE (bI u).toArray iG ah ah ah bZ au ah ?_;intro w10 dw)
   have hSd:=dw.drew
   have hG:w10.drew.cell? ⟨b2,0,none⟩=some (ptr ps)∧w10.drew.cell? ⟨ps,2,none⟩=some (.slice (some ⟨g',0,none⟩) us.length uc)∧w10.drew.cell? ⟨b4,0,none⟩=some (.map (some bm))∧w10.drew.cell? ⟨b8,0,none⟩=some (.int .i64 u.seg) ∧
     (Instr.lookup 205 (.map (some bm)) (.int .i64 u.seg) false).run Tryz.prog w10.drew = .ok (.int .i64 (Rep.fF u.seg kv)) w10.drew:=
    ⟨hSd.cellP (aW (aW (aW aT))) 0 rfl,hSd.cellP (aW (aW aT)) 2 rfl,hSd.cellP (aW (aW (aW (aW aT)))) 0 rfl,hSd.cellP aT 0 rfl,Fj u.seg (hSd.pick (aW (aW (aW (aW (aW aT))))))⟩
   clear hS iG hcell
   refine dH [9,10,11] (fun w'=>w'.cell? ⟨b2,0,none⟩=some (ptr ps)∧w'.cell? ⟨ps,2,none⟩=some (.slice (some ⟨g',0,none⟩) us.length uc)∧w'.cell? ⟨b4,0,none⟩=some (.map (some bm))∧w'.cell? ⟨b8,0,none⟩=some (.int .i64 u.seg)∧(Instr.lookup 205 (.map (some bm)) (.int .i64 u.seg) false).run Tryz.prog w' = .ok (.int .i64 (Rep.fF u.seg kv)) w') au ?_
   refine rt 0 (h:=?_)
   refine rP 1 ?_ (y:=dZ)
   refine rP 2 ?_ (y:=cO)
   refine rt 3 (h:=?_)
   refine rP 4 ?_ (y:=aX)
   refine rt 5 (h:=?_)
   refine rP 6 ?_ (y:=cO)
   refine rt 7 (h:=?_)
   refine rt 8 (h:=?_)
   refine rP 9 ?_ (y:=gX)
   refine rP 10 ?_ (y:=cO)
   clear hG
   refine bV 11 ak au (fun K' hK'=>?_)
   refine xW (vs:=[.int .i64 (Rep.fF u.seg kv)]) (i * 3+2) hSd ak ak rfl (jh bZ) (by rw [hrl];have:=bT.out;show i * 3+2+1≤_;omega) au ah ?_
   intro w12 iP
   refine hK' _ _ (.inl rfl) ?_
   clear hK' hSd dw
   refine dD au ?_
   rw [← pW.out]at iP
   go_wp2_with fail
   go_roundg (us.length - (i+1))
   case measure=>have:=bT.out;omega
   case rel=>exact ⟨i+1,rfl,bT.out,by first|rfl|go_num,iP.sb⟩
end
end Go.Proofs.YtiglchkhikciiaaGreatDoor
namespace Go.Rep
open Go.aj (Bs fO)
def vK (l:List fO):Bool:=match l.getLast? with
 |some f=>f.e.tag==2
 |none=>false
abbrev Told:Type:=Int→Bs×Int
def split (bt:Told) (ns:List Int):Nat→Nat×Int
 |0=>(0,0)
 |i+1=>if (bt (ns.getD i 0)).2≠0 then (0,(bt (ns.getD i 0)).2) else if (aj.scan (bt (ns.getD i 0)).1).2.2=0∧vK (aj.scan (bt (ns.getD i 0)).1).1=true then (i+1,0) else split bt ns i
theorem N7 (bt:Told) (ns:List Int):∀ i,(split bt ns i).1≤i
 |0=>acy 0
 |i+1=>by
  have:=N7 bt ns i
  unfold split
  split
  ·exact afm _
  split
  ·exact acy _
  ·omega
structure dI where
 what:Int
 seg:Int
 at_:Int
def dI.zero:dI:=⟨0,0,0⟩
def fault (s:Int) (at_:Nat):dI:=if at_=0 then ⟨1,s,0⟩ else ⟨2,s,at_⟩
def bad (bt:Told):List Int→Option (dI×Int)
 |[]=>none
 |s::l=>if (bt s).2≠0 then some (dI.zero,(bt s).2) else if (aj.scan (bt s).1).2.2≠0 then some (fault s (aj.scan (bt s).1).2.1,13) else bad bt l
def rowsOf (bt:Told) (l:List Int):List Row:=l.flatMap fun s=>(aj.scan (bt s).1).1.map fun f=>(s,f)
def jl (bt:Told) (l:List Int):List Use:=l.map fun s=>⟨s,((bt s).1.length:Int),0⟩
theorem EC (bt:Told):∀ (l k:List Int),bad bt l=none→bad bt (l++k)=bad bt k
 |[],_,_=>rfl
 |s::l,k,h=>by
  unfold bad at h
  rw [ajN]
  show (if (bt s).2≠0 then _ else if (aj.scan (bt s).1).2.2≠0 then _ else bad bt (l++k))=_
  split at h
  ·cases h
  ·rename_i h1
   rw [abw h1]
   split at h
   ·cases h
   ·rename_i h2
    rw [abw h2]
    exact EC bt l k h
theorem aas {bt:Told}{s:Int}{pre post:List Int} (hp:bad bt pre=none) (h:(bt s).2≠0):bad bt (pre++s::post)=some (dI.zero,(bt s).2):=by
 rw [EC bt _ _ hp];unfold bad;rw [ac3 h]
theorem aat {bt:Told}{s:Int}{pre post:List Int} (hp:bad bt pre=none) (h:(bt s).2=0) (h2:(aj.scan (bt s).1).2.2≠0):bad bt (pre++s::post)=some (fault s (aj.scan (bt s).1).2.1,13):=by
 rw [EC bt _ _ hp];unfold bad;rw [abw (fun h3=>h3 h),ac3 h2]
theorem aar {bt:Told}{s:Int}{pre:List Int} (hp:bad bt pre=none) (h:(bt s).2=0) (h2:(aj.scan (bt s).1).2.2=0):bad bt (pre++[s])=none:=by
 rw [EC bt _ _ hp];unfold bad;rw [abw (fun h3=>h3 h),abw (fun h3=>h3 h2)];rfl
theorem WS (bt:Told) (l:List Int) (s:Int):rowsOf bt (l++[s])=rowsOf bt l++(aj.scan (bt s).1).1.map fun f=>(s,f):=by
 unfold rowsOf;rw [ajj,ai7,aks,afo]
theorem air (bt:Told) (l:List Int) (s:Int):jl bt (l++[s])=jl bt l++[⟨s,((bt s).1.length:Int),0⟩]:=by
 unfold jl;rw [aey];rfl
end Go.Rep
namespace Go.Proofs.YtiglchkhikciiaaGreatDoor
open Go Go.Sl Go.ay Go.MapKept Go.RowKit
section
variable {w0 w:World}{F R:List aG}{v bv dv x lv:Value}
theorem aiK {L:List aG}{b:Nat}{ops:Array Oper}{rest:List Oper}{a:Act}{Q:Exit→Act→World→Prop}{dst:Option Tmp}{t:TypeId}{pos:String}{after:Array Edge}{P:Program}{ty:TypeId}{x y:Operand}{vx vy:Value} (hx:a.eval x=vx) (hy:a.eval y=vy) (hr:∀ w,(Instr.sliceAt ty vx (some vy) none none).run P w = .ok v w)
  (h:wpList P ops Q rest (a.put dst v) w):wpList P ops Q (⟨dst,.slice ty x (some y) none none,t,pos,after,none⟩::rest) a w:=
 ajx rfl fun _ hK=>by
  unfold Oper.wp execOp
  simp only [hx,hy,aj7,akK,adO,hr,ac2,aeC]
  exact hK _ _ h
theorem aah {ops:Array Oper}{rest:List Oper}{a:Act}{Q:Exit→Act→World→Prop}{dst:Option Tmp}{t:TypeId}{pos:String}{after:Array Edge}{P:Program}{ty:TypeId}{x y:Operand} (h:Stop (wpList P ops Q (⟨dst,.slice ty x (some y) none none,t,pos,after,none⟩::rest) a w)):wpList P ops Q (⟨dst,.slice ty x (some y) none none,t,pos,after,none⟩::rest) a w:=h.out
set_option maxRecDepth 20000 in
theorem RZ (l:Bs) (hr:Ro w0 F (bg 1 bv (aA l))) (hcap:kV bv) (hH:Ro w0 F Half) (hl:l.length≤268435456) (h:Sat w0 w F) :
  Calls Tryz.prog 30 #[bv] w (aO fun v w'=>∃ (fs:List (aj.fO×Value)) (ov:Value),fs.map (·.1)=(aj.scan l).1∧(∀ p∈fs,p.1.e.key.length=32)∧v = .tuple #[ov,.int .i64 (aj.scan l).2.1,errno (aj.scan l).2.2] ∧
   Sat w0 w' (aC 80 36 ov (lq fs)::pq fs::F)):=by
 obtain ⟨ba,bn,bc,rfl,hbn,hbc⟩:=hcap
 have hln:bn=l.length:=by
  obtain ⟨_,_,_,he,hl',_⟩:=hr w h
  cases he
  rw [aV,aiw]at hl';exact hl'.symm
 subst hln
 have hcv:=Lib.run_convert_bytes_const (P:=Tryz.prog) w 36 5 #[.int .u8 72,.int .u8 79,.int .u8 65,.int .u8 82,.int .u8 68,.int .u8 83,.int .u8 69,.int .u8 71] 8 8 Tryz.underlying36 Tryz.underlying5
 have hB:Sat w0 (w.alloc (.cells #[.int .u8 72,.int .u8 79,.int .u8 65,.int .u8 82,.int .u8 68,.int .u8 83,.int .u8 69,.int .u8 71] 5 (8,9))) (mrow w.heap.size aj.qQ::F):=h.alloc _
 simp only [aaI,aja,ajn,aen,Nat.reduceAdd]at hcv
 have hmr:bg 1 (.slice (some ⟨w.heap.size,0,none⟩) 8 8) (aA aj.qQ) (w.alloc (.cells #[.int .u8 72,.int .u8 79,.int .u8 65,.int .u8 82,.int .u8 68,.int .u8 83,.int .u8 69,.int .u8 71] 5 (8,9))):=by
  refine ⟨_,8,8,rfl,rfl,fun j x hj=>⟨_,rfl,?_⟩⟩
  rw [o9]
  have hjl:j<aj.qQ.length:=by
   have:=(abl.1 hj).1
   rw [aV]at this;exact this
  have hx:=(FN (l:=aj.qQ) hB hjl 0).1
  unfold aA at hj
  rw [aix,aak hjl]at hj
  cases hj
  exact hx
 have hpre:=acR l aj.qQ ba l.length bc hbn hbc (hr _ hB.drop) _ 8 8 hmr
 have Hr:=uQ hr;have HH:=uQ hH;have Hl:=uQ hl;have uS:=uQ (show l.length≤bc∧bc≤9223372036854775807 from ⟨hbn,hbc⟩)
 have hF:=uQ hB.drop
 clear hr hH hl hbn hbc hB hmr
 cases hm:decide (l.take aj.qQ.length=aj.qQ)
 ·have Hf:=uQ (show aj.scan l=([],0,4) by
   unfold aj.scan
   have:¬ l.take 8=aj.qQ:=of_decide_eq_false hm
   rw [abw this])
  rw [hm]at hpre
  clear hm
  go_enter Tryz.func30,Tryz.ntmps30
  go_wp2_with fail
  refine hpre.mono ?_
  rintro e w1 ⟨v,rfl,rfl,rfl⟩
  go_wp2
  go_ret3
  refine ⟨_,rfl,[],_,by rw [Hf.out];rfl,by simp,?_,Sat.fD.2 (Sat.emp.2 hF.out)⟩
  rw [Hf.out];rfl
 ·have hlm:l.take 8=aj.qQ:=akE hm
  have TF:8≤l.length:=by
   have:=aje List.length hlm
   rw [acJ]at this
   have h8:aj.qQ.length=8:=rfl
   omega
  have Hf:=uQ (show aj.scan l=aj.mQ l.length (l.drop 8) 8 by
   unfold aj.scan
   rw [ac3 hlm])
  have H8:=uQ TF
  rw [hm]at hpre
  obtain ⟨bk,off,rfl⟩:∃ bk off,ba=some ⟨bk,off,none⟩:=by
   obtain ⟨b',o',hb,_⟩:=nU (i:=0) (x:= .int .u8 (l[0]'oQ).toNat) (Hr.out _ hF.out) (by unfold aA;rw [aix,aak oQ];rfl)
   exact ⟨_,_,hb⟩
  clear hm hlm TF
  go_enter Tryz.func30,Tryz.ntmps30
  go_wp2_with fail
  refine hpre.mono ?_
  rintro e w1 ⟨v,rfl,rfl,rfl⟩
  go_wp2_with fail
  go_loopg [6,5] (l.length - 8) (fun g aq ov wr=>∃ (at_:Nat) (fs:List (aj.fO×Value)),g=l.length - at_∧8≤at_∧at_≤l.length∧9 * fs.length≤at_∧aq = .int .i64 at_∧(∀ p∈fs,p.1.e.key.length=32) ∧
   (∃ k,l.length - at_≤k∧aj.scan l=(fs.map (·.1)++(aj.mQ k (l.drop at_) at_).1,(aj.mQ k (l.drop at_) at_).2)) ∧
   Sat w0 wr (aC 80 36 ov (lq fs)::pq fs::F))
  case atStart=>
   exact ⟨8,[],rfl,acy _,H8.out,afm _,rfl,by simp,⟨l.length,by omega,by rw [Hf.out];rfl⟩,Sat.fD.2 (Sat.emp.2 hF.out)⟩
  case round=>
   obtain ⟨at_,fs,rfl,h8,hat,hfl,rfl,hfk,⟨k,hk,hsc⟩,hS⟩:=hrel
   have Hk:=uQ hk;have Bj:=uQ hsc;have sZ:=uQ hfk;have oZ:=uQ (show at_≤l.length∧8≤at_∧9 * fs.length≤at_ from ⟨hat,h8,hfl⟩)
   clear hk hsc hfk h8 hfl
   by_cases hlt:at_<l.length
   ·have c1:(at_:Int)<(l.length:Int):=by omega
    have c2:(at_:Int)≤(bc:Int):=by have:=uS.out;omega
    have c3:(l.length:Int)≤(bc:Int):=by have:=uS.out;omega
    have c4:(at_:Int)≤(l.length:Int):=oQ
    have c5:(0:Int)≤(at_:Int):=oQ
    have c6:¬ bc=at_:=by have:=uS.out;omega
    have hsl:∀ w,(Instr.sliceAt 36 (.slice (some ⟨bk,off,none⟩) l.length bc) (some (.int .i64 at_)) none none).run Tryz.prog w = .ok (.slice (some ⟨bk,off+at_,none⟩) (l.length - at_) (bc - at_)) w:=by
     intro w
     go_simp
    have hrd:=uQ (fun w hw=>V9 (Hr.out w hw) at_ l.length (bc - at_) hat (acy _))
    rw [aiv]at hrd
    have bT:=uQ hlt
    clear hlt hat
    go_wp2_with ((with_reducible refine aah ⟨?_⟩);refine aiK ah ah hsl ?_)
    refine (RY (l.drop at_) (Ro.os hrd.out) ⟨_,_,_,rfl,by have:=uS.out;omega,by have:=uS.out;omega⟩ (Ro.os HH.out) (by rw [adU];have:=Hl.out;omega) hS).mono ?_
    rintro ee w2 ⟨v,rfl,da,dc,rfl,hS2⟩
    have Px:=uQ (aj.MX (l.drop at_))
    obtain ⟨k,rfl⟩:∃ k',k=k'+1:=⟨k - 1,by have:=Hk.out;have:=bT.out;omega⟩
    have tC:=uQ (show l.drop at_≠[] by
     intro h0
     have:=aje List.length h0
     rw [adU]at this
     have:=bT.out
     simp only [ajn]at *
     omega)
    by_cases hz:(aj.read (l.drop at_)).2.2=0
    ·have bU:=uQ (aj.Wn hz)
     have Jw:=uQ (show aj.scan l=(fs.map (·.1)++(⟨(aj.read (l.drop at_)).1,at_,(aj.read (l.drop at_)).2.1⟩::(aj.mQ k ((l.drop at_).drop (aj.read (l.drop at_)).2.1) (at_+(aj.read (l.drop at_)).2.1)).1),(aj.mQ k ((l.drop at_).drop (aj.read (l.drop at_)).2.1) (at_+(aj.read (l.drop at_)).2.1)).2) by
      rw [Bj.out]
      simp only [aj.mQ]
      rw [abw tC.out,abw (fun h=>h hz)])
     have hN:=bU.out.2.1
     rw [adU]at hN
     rw [ak3]at Jw
     generalize aj.read (l.drop at_)=r at *
     obtain ⟨e,n,er⟩:=r
     obtain rfl:er=0:=hz
     have Hn:=uQ (show 9≤n∧n≤l.length - at_ from ⟨bU.out.1,hN⟩)
     have dO:=uQ (show e.key.length=32 from Px.out)
     clear hN Bj Px bU
     try clear hz
     simp only at Jw hS2
     have hw:IntKind.i64.wrap ((at_:Int)+(n:Int))=((at_+n:Nat):Int):=by
      rw [acI _ (by have:=Hn.out;have:=Hl.out;omega)];omega
     have hlen:(lq fs).length≤2147483648:=by
      rw [RG sZ.out]
      have:=oZ.out;have:=Hl.out;omega
     go_wp2_with (first
      |((with_reducible refine qI ⟨?_⟩);refine rD aQ ?_;intro bE wE hE)|((with_reducible refine oH ⟨?_⟩);first|(refine jI aQ ah ah fQ eF sQ ?_;intro wS hS)|(refine jI (e:=aj.zeroE) (da:=none) (dn:=0) (dc:=0) aQ ah ah rfl eF sQ ?_;intro wS hS))|((with_reducible refine Bz ⟨?_⟩);refine DV aQ ah aY fQ ?_)
      |((with_reducible refine P9 ⟨?_⟩);refine Ye ah ah ah (fun w=>agE e dO.out da _ dc at_ n w) ?_)
      |((with_reducible refine ny ⟨?_⟩);refine nH (e:=80) (sz:=36) (dS:=80) au aQ ak (cs:=kG ⟨e,at_,n⟩ (.slice da e.data.length dc)) rfl (yc _ _ dO.out) bF ?_;intro bN wN hN)
      |((with_reducible refine lg ⟨?_⟩);refine nG 80 36 80 au aQ ah ah aY aY ((yc _ _ dO.out).trans aN) (acy 1) (RD _ _ _ _) hlen (by rw [yc _ _ dO.out];decide) aN rfl ?_;intro bA nA cA wA hA))
     go_roundg (l.length - (at_+n))
     case measure=>have:=Hn.out;omega
     case rel=>
      refine ⟨at_+n,fs++[(⟨e,at_,n⟩,.slice da e.data.length dc)],rfl,by have:=oZ.out;omega,by have:=Hn.out;have:=oZ.out;omega,by rw [aal,adX];have:=oZ.out;have:=Hn.out;omega,by first|rfl|go_num,?_,⟨k,by have:=Hn.out;have:=Hk.out;omega,?_⟩,?_⟩
      ·intro p hp
       rw [ajk]at hp
       rcases hp with hp|hp
       ·exact sZ.out p hp
       ·rw [aiR]at hp;subst hp;exact dO.out
      ·rw [Jw.out,aey,adR];rfl
      ·rw [acd,aa7]
       have e9:lq [((⟨e,at_,n⟩:aj.fO),Value.slice da e.data.length dc)]=(kG ⟨e,at_,n⟩ (.slice da e.data.length dc)).toList:=by
        unfold lq kG;simp
       rw [e9]
       have h10:Sat w0 wA (bJ (.slice da e.data.length dc) e.data::pq fs::aC 80 36 (.slice (some ⟨bA,0,none⟩) nA cA) (lq fs++(kG ⟨e,at_,n⟩ (.slice da e.data.length dc)).toList)::F):=hA.sb
       exact (Sat.star.2 h10).aZ
    ·have hfin:=uQ (show aj.scan l=(fs.map (·.1),at_,(aj.read (l.drop at_)).2.2) by
      rw [Bj.out]
      simp only [aj.mQ]
      rw [abw tC.out,ac3 hz,afo])
     have c9:((aj.read (l.drop at_)).2.2==0)=false:=by rw [adW];exact hz
     clear hz Bj
     go_wp2_with (first|((with_reducible refine qI ⟨?_⟩);refine rD aQ ?_;intro bE wE hE)|((with_reducible refine oH ⟨?_⟩);first|(refine jI aQ ah ah fQ eF sQ ?_;intro wS hS)|(refine jI (e:=aj.zeroE) (da:=none) (dn:=0) (dc:=0) aQ ah ah rfl eF sQ ?_;intro wS hS))|((with_reducible refine Bz ⟨?_⟩);refine DV aQ ah aY fQ ?_))
     go_ret3
     refine ⟨_,rfl,fs,u5,by rw [hfin.out],sZ.out,?_,Sat.sb aQ⟩
     rw [hfin.out];rfl
   ·have c1:¬ (at_:Int)<(l.length:Int):=by omega
    have hfin:=uQ (show aj.scan l=(fs.map (·.1),at_,0) by
     rw [Bj.out,aiz oQ]
     cases k <;> simp [aj.mQ])
    clear hlt hat
    go_wp2
    go_ret3
    refine ⟨_,rfl,fs,by rw [hfin.out],fun a b hm=>sZ.out _ hm,u5,?_,hS⟩
    rw [hfin.out];rfl
end
def dK (f:Rep.dI):Array Value:=(.int .i64 f.what :: .int .i64 f.seg :: .int .i64 f.at_::(aA aj.zero32++[.string ByteArray.empty])).toArray
theorem mV:jy Tryz.prog 33=some (.agg (dK Rep.dI.zero)):=by kernel_rfl
section
variable {w0 w:World}{F:List aG}{ov:Value}
theorem ah0 {fs:List (aj.fO×Value)} (hk:∀ p∈fs,p.1.e.key.length=32) (h:bg 36 ov (lq fs) w){i:Nat}{p:aj.fO×Value} (hi:fs[i]?=some p) :
  ∃ bk off c,ov = .slice (some ⟨bk,off,none⟩) fs.length c∧w.cell? ⟨bk,off+i * 36,none⟩=some (.int .i64 p.1.e.tag):=by
 obtain ⟨bk,off,c,e,hc⟩:=iC (f:=fun p:aj.fO×Value=>ug p.1 p.2) (k:=36) (fun p hp=>BK p.1 p.2 (hk p hp)) h hi aN
 exact ⟨bk,off,c,e,hc 0 _ rfl⟩
set_option maxRecDepth 20000 in
theorem abD (fs:List (aj.fO×Value)) (hk:∀ p∈fs,p.1.e.key.length=32) (hn:fs.length≤1073741824) (h:bg 36 ov (lq fs) w) :
  Calls Tryz.prog 198 #[ov] w (aO fun v w'=>v = .bool (Rep.vK (fs.map (·.1)))∧w=w'):=by
 cases hfs:fs.getLast? with
 |none=>
  obtain rfl:fs=[]:=akP.1 hfs
  obtain ⟨a,n,c,rfl,hl,_⟩:=h
  obtain rfl:n=0:=by have:=hl;simp [lq]at this;omega
  go_enter Tryz.func198,Tryz.ntmps198
  go_wp2_with fail
  go_ret
  exact ⟨_,rfl,rfl,rfl⟩
 |some p=>
  have hne:fs≠[]:=by intro e;rw [e]at hfs;cases hfs
  have hlen:0<fs.length:=akA.2 hne
  have hi:fs[fs.length - 1]?=some p:=by rw [← ajS];exact hfs
  obtain ⟨bk,off,c,rfl,hc⟩:=ah0 hk h hi
  have He:=uQ (show Rep.vK (fs.map (·.1))=(p.1.e.tag==2) by unfold Rep.vK;rw [List.getLast?_map,hfs];rfl)
  rw [He.out]
  have c1:(fs.length:Int)>0:=oQ
  have c2:(0:Int)<(fs.length:Int):=oQ
  have w1:IntKind.i64.wrap ((fs.length:Int) - 1)=((fs.length - 1:Nat):Int):=by rw [acI _ oQ];omega
  have c3:(0:Int)≤((fs.length - 1:Nat):Int):=oQ
  have c4:((fs.length - 1:Nat):Int)<(fs.length:Int):=oQ
  clear hfs hne hlen hi h hk hn
  generalize fs.length - 1=j at *
  go_enter Tryz.func198,Tryz.ntmps198
  go_wp2_with fail
  go_ret
  exact ⟨_,rfl,rfl,rfl⟩
end
section
variable {w0 w:World}{F R:List aG}{p B B':Nat}{m:aj.Bs→Option Rep.dF}
theorem dY.mono (hB:B≤B') (h:Sat w0 w (dY p m B::R)):Sat w0 w (dY p m B'::R):=by
 obtain ⟨t,sv,⟨ok,is,hb⟩,hS⟩:=dY.open h
 exact dY.shut ok is (adr hb hB) hS
variable {da:Option Addr}{dn dc:Nat}
theorem ab9 (f:aj.fO) (dv:Value) (hk:f.e.key.length=32):(kG f dv)[34]?=some (.int .i64 f.at_)∧(kG f dv)[35]?=some (.int .i64 f.size)∧∀ j v,(aA f.e.key)[j]?=some v→(kG f dv)[1+j]?=some v:=by
 have hl:(kW f.e dv).length=34:=Rf _ _ hk
 refine ⟨?_,?_,fun j v hj=>?_⟩
 ·show (kW f.e dv++_).toArray[34]?=_
  rw [abL,adQ oQ,hl];rfl
 ·show (kW f.e dv++_).toArray[35]?=_
  rw [abL,adQ oQ,hl];rfl
 ·have hj1:=(abl.1 hj).1
  have hj2:=hj1
  rw [aV,hk]at hj2
  show (kW f.e dv++_).toArray[1+j]?=_
  rw [abL,adV oQ,alm]
  show (aA f.e.key++[dv])[j]?=_
  rw [adV hj1];exact hj
set_option maxRecDepth 20000 in
theorem ah5 (s:Int) (f:aj.fO) (hk:f.e.key.length=32) (hB:B≤13000000) (h:Sat w0 w (dY p m B::F)) :
  Calls Tryz.prog 151 #[.agg #[ptr p],.int .i64 s,.agg (kG f (.slice da dn dc))] w (aO fun _ w'=>Sat w0 w' (dY p (Rep.DR m (s,f)) (B+1)::F)):=by
 have Hk:=uQ hk;have HB:=uQ hB
 have e0:(kG f (.slice da dn dc))[0]?=some (.int .i64 f.e.tag):=rfl
 obtain ⟨e34,e35,QW⟩:=ab9 f (.slice da dn dc) hk
 clear hk hB
 go_enter Tryz.func151,Tryz.ntmps151
 go_wp2_with (with_reducible apply eG)
 refine ⟨eH h ak ak ?_⟩
 intro b3 w3 h3
 go_wp2_with (with_reducible apply eG)
 refine ⟨eH h3 ak ak ?_⟩
 intro b5 w5 h5
 clear h h3
 have h6:Sat w0 w5 (pt b5 (.cells (kG f (.slice da dn dc)) 80 (0,0))::pt b3 (.cells #[ptr p] 250 (0,0))::dY p m B::F):=h5
 clear h5
 have f0:w5.cell? ⟨b5,0,none⟩=some (.int .i64 f.e.tag):=h6.cellP aT 0 e0
 by_cases h2:f.e.tag=2
 ·have hb:(f.e.tag==2)=true:=akr.2 h2
  have Jj:=uQ (show Rep.DR m (s,f)=m from ac3 h2)
  have h7:=uQ (dY.mono (aj8 B) (h6.sb:Sat w0 w5 (dY p m B::F)))
  clear h2 h6
  go_wp2_with fail
  (try simp only [Exit.inBlock,Exit.then]);refine bodyPost_ret (results_none rfl _ _ _) rfl ?_
  exact ⟨_,rfl,by rw [Jj.out];exact h7.out⟩
 have hb:(f.e.tag==2)=false:=by rw [adW];exact h2
 have Jj:=uQ (show Rep.DR m (s,f)=Tab.put m f.e.key ⟨f.e.tag,⟨s,f.at_,f.size⟩,Rep.mJ m (s,f)⟩ from abw h2)
 clear h2
 have hkr:w5.rangeAt b5 1 (aA f.e.key):=fun j v hj=>h6.cellP aT (1+j) (QW j v hj)
 go_wp2_with (first
  |((with_reducible refine bD ⟨?_⟩);refine dV h6 ah aY bF ak au ?_)
  |((with_reducible refine bD ⟨?_⟩);refine gU (b:=b5) (o:=1) (aA f.e.key) ah hkr Tryz.underlying31 rfl (by rw [aV,Hk.out];kernel_rfl) ?_))
 refine (acv (by have:=HB.out;omega) Hk.out (h6.sb:Sat w0 w5 (dY p m B::pt b5 (.cells (kG f (.slice da dn dc)) 80 (0,0))::pt b3 (.cells #[ptr p] 250 (0,0))::F))).mono ?_
 rintro ee w7 ⟨v,rfl,hv,h7⟩
 clear h6 hkr f0
 rcases hm:m f.e.key with _|a
 focus
  rw [hm,Option.getD_none,Option.isSome_none]at hv
  subst hv
  have hf0:Rep.x9 m (s,f) = -1:=by unfold Rep.x9;show (match m f.e.key with|some a=>a.first|none=> -1) = -1;rw [hm]
  clear hm
  go_wp2_with (with_reducible apply eU)
  refine ⟨dU D5 h7 rfl ?_⟩
  intro b6 w8 h8
  go_wp2_with (first|((with_reducible refine bY ⟨?_⟩);refine fE (bf ⟨0,Seg.aU.zero,0⟩).toArray h8 ah ah ah bZ au ah ?_;intro w9 h9)|((with_reducible refine bY ⟨?_⟩);refine eY (cs':=#[.int .i64 0,.int .i64 0,.int .i64 0,.int .i64 0,.int .i64 (-1)]) h9 ah ak ah bZ (by show 4+1≤5;decide) au ah ?_;intro wB hB)|(with_reducible apply bD))
  refine ⟨?_⟩
  have f1:wB.cell? ⟨b5,0,none⟩=some (.int .i64 f.e.tag):=hB.cellP (aW (aW aT)) 0 e0
  have f2:wB.cell? ⟨b6,4,none⟩=some (.int .i64 (-1)):=hB.cellP aT 4 rfl
  clear h7 h8 h9
  by_cases hz:f.e.tag=0
  focus
   have hb0:(f.e.tag==0)=true:=akr.2 hz
   have hE:=uQ (show Rep.mJ m (s,f)=s by unfold Rep.mJ;rw [hf0];exact ac3 ⟨hz,by decide⟩)
   clear hz hf0
   go_wp2_with ((with_reducible refine bY ⟨?_⟩);refine eY (cs':=#[.int .i64 0,.int .i64 0,.int .i64 0,.int .i64 0,.int .i64 s]) hB ah ak ah bZ (by show 4+1≤5;decide) au ah ?_;intro wA hA)
   clear hB f1 f2
  rotate_left
  focus
   have hb0:(f.e.tag==0)=false:=by rw [adW];exact hz
   have hE:=uQ (show Rep.mJ m (s,f) = -1 by unfold Rep.mJ;rw [hf0];exact abw (fun h=>hz h.1))
   clear hz hf0
   go_wp2_with fail
   clear f1 f2
   have hA:=hB
   clear hB
 rotate_left 2
 focus
  rw [hm,Option.getD_some,Option.isSome_some]at hv
  subst hv
  have hf0:Rep.x9 m (s,f)=a.first:=by unfold Rep.x9;show (match m f.e.key with|some a=>a.first|none=> -1)=a.first;rw [hm]
  obtain ⟨at0,⟨PN,PO,PS⟩,af⟩:=a
  have SL:=h7
  clear h7 hm
  have h7:=SL
  clear SL
  go_wp2_with (with_reducible apply eU)
  refine ⟨dU D5 h7 rfl ?_⟩
  intro b6 w8 h8
  go_wp2_with (first|((with_reducible refine bY ⟨?_⟩);refine fE (bf ⟨at0,⟨PN,PO,PS⟩,af⟩).toArray h8 ah ah ah bZ au ah ?_;intro w9 h9)|(with_reducible apply bD))
  refine ⟨?_⟩
  have f1:w9.cell? ⟨b5,0,none⟩=some (.int .i64 f.e.tag):=h9.cellP (aW (aW aT)) 0 e0
  have f2:w9.cell? ⟨b6,4,none⟩=some (.int .i64 af):=h9.cellP aT 4 rfl
  clear h7 h8
  by_cases hz:f.e.tag=0
  focus
   have hb0:(f.e.tag==0)=true:=akr.2 hz
   by_cases hf:af<0
   focus
    have hE:=uQ (show Rep.mJ m (s,f)=s by unfold Rep.mJ;rw [hf0];exact ac3 ⟨hz,hf⟩)
    clear hz hf0
    go_wp2_with ((with_reducible refine bY ⟨?_⟩);refine eY (cs':=#[.int .i64 at0,.int .i64 PN,.int .i64 PO,.int .i64 PS,.int .i64 s]) h9 ah ak ah bZ (by show 4+1≤5;decide) au ah ?_;intro wA hA)
    clear h9 f1 f2
   rotate_left
   focus
    have hE:=uQ (show Rep.mJ m (s,f)=af by unfold Rep.mJ;rw [hf0];exact abw (fun h=>hf h.2))
    clear hz hf0
    go_wp2_with fail
    clear f1 f2
    have hA:=h9
    clear h9
  rotate_left 2
  focus
   have hb0:(f.e.tag==0)=false:=by rw [adW];exact hz
   have hE:=uQ (show Rep.mJ m (s,f)=af by unfold Rep.mJ;rw [hf0];exact abw (fun h=>hz h.1))
   clear hz hf0
   go_wp2_with fail
   clear f1 f2
   have hA:=h9
   clear h9
 all_goals
  obtain ⟨q0,q1,q2,q3,q4,hE,iG⟩:∃ q0 q1 q2 q3 q4:Int,Hid (Rep.mJ m (s,f)=q4)∧Sat w0 _ (pt b6 (.cells #[.int .i64 q0,.int .i64 q1,.int .i64 q2,.int .i64 q3,.int .i64 q4] 248 (0,0))::dY p m B::pt b5 (.cells (kG f (.slice da dn dc)) 80 (0,0))::pt b3 (.cells #[ptr p] 250 (0,0))::F):=⟨_,_,_,_,_,hE,hA.drew⟩
  clear hA
  have hG:=And.intro (iG.cellP (aW (aW aT)) 0 e0) (And.intro (iG.cellP (aW (aW aT)) 34 e34) (iG.cellP (aW (aW aT)) 35 e35))
  refine dH [11,12] (fun w'=>w'.cell? ⟨b5,0,none⟩=some (.int .i64 f.e.tag)∧w'.cell? ⟨b5,34,none⟩=some (.int .i64 f.at_)∧w'.cell? ⟨b5,35,none⟩=some (.int .i64 f.size)) au ?_
  refine rP 0 ?_ (y:=cO)
  refine rP 1 ?_ (y:=cO)
  refine rt 2 (h:=?_)
  refine rP 3 ?_ (y:=aX)
  refine rP 4 ?_ (y:=cO)
  refine rt 5 (h:=?_)
  refine rP 6 ?_ (y:=cO)
  refine rt 7 (h:=?_)
  refine rp 8 (hy:=(by (refine Or.inl ⟨by rfl,?_⟩;((intro wq;go_simp);first|done|exact wQ)))) (h:=?_)
  refine rP 9 ?_ (y:=cO)
  refine bV 10 ak au (fun K hK=>?_)
  refine kP (cs':=#[.int .i64 f.e.tag,.int .i64 q1,.int .i64 q2,.int .i64 q3,.int .i64 q4]) iG ak ak ah bZ (by show 0+1≤5;decide) au ah ?_
  intro w10 dw
  have hG2:=And.intro (dw.cellP (aW (aW aT)) 0 e0) (And.intro (dw.cellP (aW (aW aT)) 34 e34) (dw.cellP (aW (aW aT)) 35 e35))
  refine hK _ _ (.inr (.inl hG2)) ?_
  clear hK iG hG hG2
  refine rP 11 ?_ (y:=cO)
  refine bV 12 ak au (fun K hK=>?_)
  refine kP (cs':=#[.int .i64 f.e.tag,.int .i64 s,.int .i64 f.at_,.int .i64 f.size,.int .i64 q4]) dw ak ak ah bZ (by show 1+3≤5;decide) au ah ?_
  intro w12 iP
  refine hK _ _ (.inl rfl) ?_
  clear hK dw
  refine dD au ?_
  have qo:Sat w0 w12 (pt b6 (.cells (bf ⟨f.e.tag,⟨s,f.at_,f.size⟩,Rep.mJ m (s,f)⟩).toArray 248 (0,0))::dY p m B::pt b5 (.cells (kG f (.slice da dn dc)) 80 (0,0))::pt b3 (.cells #[ptr p] 250 (0,0))::F):=by
   have:=iP
   rw [hE.out]
   exact this
  clear iP
  have hkr:w12.rangeAt b5 1 (aA f.e.key):=fun j v hj=>qo.cellP (aW (aW aT)) (1+j) (QW j v hj)
  go_wp2_with (first
   |((with_reducible refine bD ⟨?_⟩);refine gU (b:=b5) (o:=1) (aA f.e.key) ah hkr Tryz.underlying31 rfl (by rw [aV,Hk.out];kernel_rfl) ?_)
   |((with_reducible refine bD ⟨?_⟩);refine gI qo ah (aT (A:=pt b6 (.cells (bf ⟨f.e.tag,⟨s,f.at_,f.size⟩,Rep.mJ m (s,f)⟩).toArray 248 (0,0)))) Tryz.underlying248 rfl au ?_)
   |((with_reducible refine bD ⟨?_⟩);refine dV qo ah aY bF ak au ?_))
  refine (afA (p:=p) (by have:=HB.out;omega) Hk.out ⟨f.e.tag,⟨s,f.at_,f.size⟩,Rep.mJ m (s,f)⟩ (qo.sb:Sat w0 w12 (dY p m B::F))).mono ?_
  rintro ee kR ⟨v,rfl,Fa⟩
  go_wp2_with fail
  go_end0
  exact ⟨_,rfl,by rw [Jj.out];exact Fa⟩
end
section
variable {P:Program}{w0 w:World}{F R L:List aG}{b:Nat}{ops:Array Oper}{rest:List Oper}{a:Act}{Q:Exit→Act→World→Prop}
variable {dst:Option Tmp}{t ty T e:TypeId}{pos:String}{after:Array Edge}{x y:Operand}{cs:Array Value}{v:Value}{o n c k cap sz dS:Nat}{ad:Addr}{ys:List Value}
theorem abx (sz dS:Nat){K:Act→World→Prop}{E:Prop} (hb:nP P ty e sz dS=true) (hv:a.eval x = .slice (some ⟨b,0,none⟩) k cap) (hy:a.eval y = .slice (some ad) n c)
  (h:Sat w0 w (pt b (.cells cs T (0,0))::F)) (hl:ys.length=n * sz) (hnews:∀ j u,ys[j]?=some u→w.cell? (ad.add j)=some u) (h1:∀ u∈ys,u.oneCell'=true) (hroom:k+n≤cap) (hc:cap * sz≤cs.size)
  (hK:∀ w',Sat w0 w' (pt b (.cells (dM cs (k * sz) ys) T (0,0))::F)→K (a.put dst (.slice (some ⟨b,0,none⟩) (k+n) cap)) w') :
  if Region.wanted ⟨dst,.call { callee:= .builtin .append,args:=#[x,y],argTypes:=#[ty,ty] },t,pos,after,none⟩ (yielded ops a.tmps)=true then
   Oper.wp P ⟨dst,.call { callee:= .builtin .append,args:=#[x,y],argTypes:=#[ty,ty] },t,pos,after,none⟩ a w K Q else E:=by
 rw [ac3 (kS _ rfl)]
 obtain ⟨hu,i,z,hi,hz,e1,e2,e3,e4⟩:=vg hb
 subst e1
 have hle:(k+n) * i.size≤cs.size:=adr (ajT _ hroom) hc
 rw [akt]at hle
 have hr:=run_append_room_cells (P:=P) (w:=w) ty t e i hu hi b 0 k cap ad n c ys hl hnews h1 hroom (fun j hj=>by
   rw [aen,h.cellAt (k * i.size+j) _ (akh (show k * i.size+j<cs.size by omega))];rfl) (fun j hj=>h.nR _)
 rw [aen]at hr
 unfold Oper.wp execOp
 simp only [resolve,invoke,builtin,adO,aeC,ac2,ajR,ag8,ajP,hv,hy,hr]
 exact hK _ (Sat.sets ys (k * i.size) h)
theorem Yr {vx vy:Value} (hx:a.eval x=vx) (hy:a.eval y=vy) (hr:∀ w,(Instr.sliceAt ty vx (some vy) none none).run P w = .ok v w):Yields P ops ⟨dst,.slice ty x (some y) none none,t,pos,after,none⟩ v a:=
 .inl ⟨kS _ rfl,fun w=>by simp only [execOp,hx,hy,aj7,akK,adO,hr,ac2,aeC]⟩
theorem agG (sz:Nat){z:Value} (hu:P.underlying ty=some (.slice e)) (hz:jy P e=some z) (hzs:z.cells.size=sz) (h1:z.cells.toList.all (·.oneCell')=true){o:Nat} (hfit:o+sz≤cs.size)
  (h:Sat w0 w (pt b (.cells cs T (0,0))::F)) :
  ∃ w',(Builtin.clear_ #[ty] t #[.slice (some ⟨b,o,none⟩) 1 c]).run P w = .ok (.tuple #[]) w'∧Sat w0 w' (pt b (.cells (dM cs o z.cells.toList) T (0,0))::F):=by
 refine ⟨w.setCells b o z.cells.toList,?_,Sat.sets _ _ h⟩
 have hzc:(Builtin.zeroCells z.cells 1).toList=z.cells.toList:=by
  unfold Builtin.zeroCells
  simp only [Array.toList_map,Array.toList_range,Nat.one_mul]
  apply List.ext_getElem (by simp)
  intro i q1 q2
  have hi:i<z.cells.size:=by simpa using q2
  simp [akN hi,hi]
 have hst:=run_storeCells_cells (P:=P) b o z.cells.toList 0 w (fun j hj=>by
   rw [akc,h.cellAt (o+j) _ (akh (show o+j<cs.size by simp at hj;omega))];rfl) (fun j hj=>h.nR _) (fun u hu=>(ajE.1 h1) u hu)
 simp only [akc]at hst
 simp [Builtin.clear_,ajO hu,GN hz w,hzc,hst]
theorem aiF (sz:Nat){z:Value} (hu:P.underlying ty=some (.slice e)) (hz:jy P e=some z) (hzs:z.cells.size=sz) (h1:z.cells.toList.all (·.oneCell')=true) (hx:a.eval x = .slice (some ⟨b,o,none⟩) 1 c) (hfit:o+sz≤cs.size)
  (h:Sat w0 w (pt b (.cells cs T (0,0))::F)) (hK:∀ w',Sat w0 w' (pt b (.cells (dM cs o z.cells.toList) T (0,0))::F)→wpList P ops Q rest (a.put dst (.tuple #[])) w') :
  wpList P ops Q (⟨dst,.call { callee:= .builtin .clear,args:=#[x],argTypes:=#[ty] },t,pos,after,none⟩::rest) a w:=by
 refine ajx rfl fun _ hK'=>?_
 obtain ⟨w',hr,hS⟩:=agG (P:=P) (t:=t) (c:=c) sz hu hz hzs h1 hfit h
 unfold Oper.wp execOp
 simp only [resolve,invoke,builtin,adO,aeC,ac2,ajR,ag8,ajP,hx,hr]
 exact hK' _ _ (hK w' hS)
theorem aac (h:Stop (wpList P ops Q (⟨dst,.call { callee:= .builtin .clear,args:=#[x],argTypes:=#[ty] },t,pos,after,none⟩::rest) a w)):wpList P ops Q (⟨dst,.call { callee:= .builtin .clear,args:=#[x],argTypes:=#[ty] },t,pos,after,none⟩::rest) a w:=h.out
end
section
variable {w0 w:World}{F R:List aG}{v bv dv x lv:Value}{q p m K:Nat}
theorem abd {l:List (Int×Int)}{i cap:Nat}{cs:Array Value} (hi:i<l.length) (hn:l.length≤cap) (hc:cap * 2≤cs.size) (htk:cs.toList.take (l.length * 2)=dR l) (z:List Value) (hz:z.length=2) :
  (dM (dM cs (i * 2) (dR (l.drop (i+1)))) ((l.length - 1) * 2) z).toList.take ((l.length - 1) * 2)=dR (l.eraseIdx i):=by
 have hys:(dR (l.drop (i+1))).length=(l.length - (i+1)) * 2:=by rw [jW,adU,ajW]
 have hcl:cs.toList.length=cs.size:=by simp
 rw [jU _ _ _ (by rw [jM];omega),adR,List.take_append,List.take_take,Nat.min_self]
 have hp2:(dM cs (i * 2) (dR (l.drop (i+1)))).toList.length=cs.size:=(adu).trans (jM _ _ _)
 have h1:((dM cs (i * 2) (dR (l.drop (i+1)))).toList.take ((l.length - 1) * 2)).length=(l.length - 1) * 2:=by
  rw [acJ,hp2];omega
 rw [h1,akb,ajD,afo,jU _ _ _ oQ,adR]
 rw [List.take_append,acJ,hcl,alh oQ,aeb (l:=cs.toList.take (i * 2)) (by rw [acJ];omega)]
 rw [List.take_append,hys,aeb (l:=dR (l.drop (i+1))) oQ,show (l.length - 1) * 2 - i * 2 - (l.length - (i+1)) * 2=0 by omega,ajD,afo]
 have h2:cs.toList.take (i * 2)=dR (l.take i):=by
  have:=aje (List.take (i * 2)) htk
  rw [List.take_take,alh oQ]at this
  rw [this]
  conv=>lhs;rw [← ajs i l,yN]
  rw [ajb (by rw [jW,acJ];omega),aeb (by rw [jW,acJ];omega)]
 rw [h2,← yN,List.eraseIdx_eq_take_drop_succ]
theorem ahi (l:List (Int×Int)) (i:Nat):dR (l.drop i)=(dR l).drop (i * 2):=by
 rcases akf i l.length with h|h
 ·have h1:dR l=dR (l.take i)++dR (l.drop i):=by rw [← yN,ajs]
  have h2:(dR (l.take i)).length=i * 2:=by rw [jW,acJ];omega
  rw [h1,← h2,List.drop_left]
 ·rw [aiz h,aiz (by rw [jW];omega)];rfl
theorem ahj (l:List (Int×Int)):∀ u∈dR l,u.oneCell'=true:=by
 intro u hu
 unfold dR at hu
 rw [alq]at hu
 obtain ⟨s,_,hs⟩:=hu
 simp only [aer,ajU,alb]at hs
 rcases hs with rfl|rfl <;> rfl
set_option maxRecDepth 20000 in
theorem ahe (l:List (Int×Int)) (i:Nat) (hi:i<l.length) (hln:l.length≤1048576) (h:Sat w0 w (aC 153 2 lv (dR l)::F)) :
  Calls Tryz.prog 116 #[lv,.int .i64 i,.int .i64 ((i:Int)+1)] w (aO fun v w'=>∃ a n c,v = .slice a n c∧Sat w0 w' (aC 153 2 v (dR (l.eraseIdx i))::F)):=by
 rcases h.jQ with ⟨rfl,hx,hF⟩|⟨b,n',cap,cs,rfl,hll,hn',hc,hcm,htk,hp⟩
 ·exfalso
  have:=aje List.length hx
  rw [jW]at this;simp at this;omega
 rw [jW]at hll
 obtain rfl:n'=l.length:=by omega
 have hcm':cap≤9223372036854775807:=hcm
 have IV:=uQ (abd hi hn' hc htk [.int .i64 0,.int .i64 0] rfl)
 have h0:(0:Int)≤(i:Int):=oQ
 have h1:(i:Int)≤(i:Int)+1:=oQ
 have h2:(i:Int)+1≤(l.length:Int):=oQ
 have h3:(l.length:Int)≤(cap:Int):=oQ
 have hne:((i:Int)==(i:Int)+1)=false:=by rw [adW];omega
 have Hp:=uQ hp;have YR:=uQ hcm;have Hc:=uQ hc;have Hn:=uQ hn';have fB:=uQ htk;have Hi:=uQ hi;have jA:=uQ hln
 clear hn' hc hcm htk hi h hll hln
 go_enter Tryz.func116,Tryz.ntmps116
 go_wp2_with fail
 obtain ⟨ad,had,hsl⟩:∃ ad:Addr,(i+1<l.length→ad=⟨b,(i+1) * 2,none⟩)∧∀ w,(Instr.sliceAt 145 (.slice (some ⟨b,0,none⟩) l.length cap) (some (.int .i64 ((i:Int)+1))) none none).run Tryz.prog w = .ok (.slice (some ad) (l.length - (i+1)) (cap - (i+1))) w:=by
  by_cases hce:cap=i+1
  ·refine ⟨⟨b,0,none⟩,fun hh=>by have:=Hn.out;omega,fun w=>?_⟩
   have h4:(0:Int)≤(i:Int)+1:=oQ
   have h5:((i:Int)+1).toNat=i+1:=oQ
   go_simp
  ·refine ⟨⟨b,(i+1) * 2,none⟩,fun _=>rfl,fun w=>?_⟩
   have h4:(0:Int)≤(i:Int)+1:=oQ
   have h5:((i:Int)+1).toNat=i+1:=oQ
   go_simp
 have hic:i≤cap:=oQ
 refine dH [] (fun _=>True) au ?_
 refine rP 0 ?_ (y:=aX)
 refine rP 1 ?_ (y:=aX)
 refine rp 2 (hy:=(by (refine Or.inl ⟨by rfl,?_⟩;((intro wq;go_simp);first|done|exact wQ)))) (h:=?_)
 refine rP 3 ?_ (y:=aX)
 refine rP 4 ?_ (y:=aX)
 refine rP 5 ?_ (y:=(Yr ak ak hsl))
 refine bV 6 ak au (fun K hK=>?_)
 refine abx (e:=153) (w0:=w0) (b:=b) (cs:=cs) (k:=i) (ys:=dR (l.drop (i+1))) 2 16 au ah ah Hp.out.drew (by rw [jW,adU,ajW]) ?_ (ahj _) (by have:=Hn.out;have:=Hi.out;omega) Hc.out ?_
 ·intro j u hj
  have hjl:=(abl.1 hj).1
  rw [jW,adU]at hjl
  rw [had oQ,Addr.add_mid]
  rw [ahi,akG]at hj
  exact Hp.out.drew.cellAt _ _ (jS fB.out hj)
 intro w2 hS2
 refine hK _ _ (.inr (.inl trivial)) ?_
 clear hK K
 rw [show i+(l.length - (i+1))=l.length - 1 by have:=Hi.out;omega]
 have hj0:(0:Int)≤((l.length - 1:Nat):Int):=oQ
 have hj1:((l.length - 1:Nat):Int)≤(l.length:Int):=oQ
 have hj2:¬ cap=l.length - 1:=by have:=Hn.out;have:=Hi.out;omega
 have hj3:l.length - (l.length - 1)=1:=by have:=Hi.out;omega
 have hfit:=uQ (show (l.length - 1) * 2+2≤(dM cs (i * 2) (dR (l.drop (i+1)))).size by rw [jM];have:=Hc.out;have:=Hn.out;have:=Hi.out;omega)
 have Hk:=uQ (show (dR (l.eraseIdx i)).length=(l.length - 1) * 2 by rw [jW,List.length_eraseIdx_of_lt Hi.out,ajW])
 generalize (l.length - 1)=N at *
 refine rP 7 ?_ (y:=fJ)
 refine dD au ?_
 clear hp hsl had
 go_wp2_with ((with_reducible refine aac ⟨?_⟩);refine aiF (o:=N * 2) 2 Tryz.underlying145 Yx ah ah ah hfit.out hS2 ?_;intro w3 hS3)
 go_ret
 refine ⟨_,rfl,_,_,_,rfl,?_⟩
 exact Sat.kC hS3 Hk.out (by have:=Hn.out;omega) (by rw [jM,jM];exact Hc.out) YR.out IV.out
end
section
variable {w0 w:World}{F R:List aG}{v bv dv x lv:Value}{q p m K:Nat}{L:Seg.Log}{M:ay}{s:Int×Int}
set_option maxRecDepth 20000 in
theorem UU (hL:L.Ok) (hM:M.Ok K) (jK:K≤1099511627776) (n:Int) (h:Sat w0 w (aI p m L::aH m M::F)) :
  Calls Tryz.prog 67 #[ptr p,.int .i64 n] w (aO fun v w'=>v=errno (L.remove M n).2∧Sat w0 w' (aI p m (L.remove M n).1.1::aH m (L.remove M n).1.2::F)):=by
 obtain ⟨lv,hR⟩:=aI.mP h
 have hok:=qV hR
 have hf:=Dj hL n h
 clear hR lv
 rcases EW (L:=L) n with ⟨ha,hb⟩|⟨i,ha,hb⟩
 ·have bH:=uQ (show L.remove M n=((L,M),9) by unfold Seg.Log.remove;rw [ha])
  rw [hb]at hf
  clear ha hb hL h
  go_enter Tryz.func67,Tryz.ntmps67
  go_wp2_with fail
  refine hok.mono ?_
  rintro e w2 ⟨v,rfl,rfl,rfl⟩
  clear hok
  go_wp2_with fail
  refine hf.mono ?_
  rintro e w2 ⟨v,rfl,rfl,hS2⟩
  clear hf
  go_wp2
  go_ret
  rw [bH.out]
  exact ⟨_,rfl,rfl,hS2⟩
 ·rw [hb]at hf
  have hlt:=(Seg.Log.Ey ha).1
  have Hg:=uQ (show L.remove M n=if (M.remove (Seg.name n)).2=0 then ((L.without i,(M.remove (Seg.name n)).1),0) else ((L,(M.remove (Seg.name n)).1),(M.remove (Seg.name n)).2) by unfold Seg.Log.remove;rw [ha])
  have hi0:(0:Int)≤(i:Int):=oQ
  have hd:decide ((i:Int)<0)=false:=aex oQ
  have bT:=uQ hlt;have jA:=uQ hL.len;have Ec:=uQ hL.fresh
  clear ha hb hL h hlt
  go_enter Tryz.func67,Tryz.ntmps67
  go_wp2_with fail
  refine hok.mono ?_
  rintro e w2 ⟨v,rfl,rfl,rfl⟩
  clear hok
  go_wp2_with fail
  refine hf.mono ?_
  rintro e w2 ⟨v,rfl,rfl,hS2⟩
  clear hf
  obtain ⟨lv,hR⟩:=aI.mP hS2
  clear hS2
  go_wp2_with fail
  refine dH [6,7] (fun w'=>w'.cell? ⟨p,0,none⟩=some (ptr m)) au ?_
  have hG:w2.drew.cell? ⟨p,0,none⟩=some (ptr m):=hR.drew.cellP aY 0 rfl
  refine rP 0 ?_ (y:=aX)
  refine rP 1 ?_ (y:=dZ)
  refine rP 2 ?_ (y:=cO)
  refine rt 3 (h:=?_)
  refine rP 4 ?_ (y:=aX)
  clear hG
  refine bV 5 ak au (fun K hK=>?_)
  (refine pF au ak ?_)
  refine (wP n hR.drew).mono ?_
  rintro e w3 ⟨v,rfl,rfl,hS3⟩
  refine hK _ _ (.inr (.inl (hS3.cellP aY 0 rfl))) ?_
  clear hK hR
  refine bV 6 ak au (fun K hK=>?_)
  (refine gy au ak ak ?_)
  refine (yJ hM jK (Sat.pk aQ) _).mono ?_
  rintro e w4 ⟨v,rfl,rfl,hS4⟩
  refine hK _ _ (.inl rfl) ?_
  clear hK hS3
  refine rP 7 ?_ (y:=fJ)
  refine dD au ?_
  clear hM
  generalize M.remove (Seg.name n)=B at *
  obtain ⟨M2,e2⟩:=B
  by_cases he:e2=0
  rotate_left
  ·have heb:(e2==0)=false:=aj1 he
   have hfin:=uQ (Hg.out.trans (abw he))
   clear he
   go_wp2_with fail
   go_ret
   rw [hfin.out]
   exact ⟨_,rfl,rfl,aI.shut2 (lv:=lv) (Sat.sb hS4)⟩
  subst he
  have hfin:=uQ (Hg.out.trans (ac3 rfl))
  clear Hg
  obtain ⟨la,lc,rfl⟩:∃ la lc,lv = .slice la L.l.length lc:=by
   obtain ⟨a,n',c,rfl,hn,_⟩:=Sat.rd (hS4.pk (A:=aC 153 2 lv (dR L.l)))
   rw [jW]at hn
   exact ⟨a,c,by rw [show n'=L.l.length by omega]⟩
  have hw1:IntKind.i64.wrap ((L.l.length:Int) - 1)=(L.l.length:Int) - 1:=by rw [ajt];have:=jA.out;omega
  have hw2:IntKind.i64.wrap ((L.l.length:Int) - L.fresh)=(L.l.length:Int) - L.fresh:=by rw [ajt];have:=jA.out;have:=Ec.out;omega
  have hw3:IntKind.i64.wrap (L.fresh - 1)=L.fresh - 1:=by rw [ajt];have:=jA.out;have:=Ec.out;omega
  have hw4:IntKind.i64.wrap ((i:Int)+1)=(i:Int)+1:=by rw [ajt];have:=jA.out;have:=bT.out;omega
  have Pg:=uQ (show (L.without i).on=if ((i:Int)==(L.l.length:Int) - 1)=true then false else L.on by
   unfold Seg.Log.without
   simp only [akr]
   have:=bT.out
   by_cases hh:i+1=L.l.length
   ·rw [ac3 hh,ac3 oQ]
   ·rw [abw hh,abw oQ])
  have pU:=uQ (show (L.without i).fresh=if decide ((L.l.length:Int) - L.fresh≤(i:Int))=true then L.fresh - 1 else L.fresh by
   unfold Seg.Log.without
   simp only [adN])
  have Hll:=uQ (show (L.without i).l=L.l.eraseIdx i∧(L.without i).limit=L.limit from ⟨rfl,rfl⟩)
  generalize L.without i=LW at *
  obtain ⟨ajf,Wl,Won,Wfr⟩:=LW
  obtain ⟨rfl,rfl⟩:=Hll.out
  obtain rfl:=Pg.out
  obtain rfl:=pU.out
  clear Pg pU Hll
  cases hb1:((i:Int)==(L.l.length:Int) - 1) <;> cases hb2:(decide ((L.l.length:Int) - L.fresh≤(i:Int)))
  all_goals
   go_wp2_with (first|((with_reducible refine bD ⟨?_⟩);refine dV aQ ah aY bF ak au ?_)|((with_reducible refine bY ⟨?_⟩);refine eY aQ ah ak pQ eF bF au ah ?_;intro wS hS))
   try have hS4:=hS
   have hG:(World.drew _).cell? ⟨p,2,none⟩=some (.slice la L.l.length lc)∧(World.drew _).cell? ⟨p,4,none⟩=some (.int .i64 L.fresh):=⟨hS4.drew.cellP aY 2 rfl,hS4.drew.cellP aY 4 rfl⟩
   refine dH [10,11] (fun w'=>w'.cell? ⟨p,2,none⟩=some (.slice la L.l.length lc)∧w'.cell? ⟨p,4,none⟩=some (.int .i64 L.fresh)) au ?_
   refine rP 0 ?_ (y:=aX)
   refine rP 1 ?_ (y:=aX)
   refine rP 2 ?_ (y:=dZ)
   refine rP 3 ?_ (y:=cO)
   refine rt 4 (h:=?_)
   refine rP 5 ?_ (y:=(nZ ak dh))
   refine rP 6 ?_ (y:=aX)
   refine rP 7 ?_ (y:=dZ)
   refine rP 8 ?_ (y:=cO)
   refine rt 9 (h:=?_)
   refine rP 10 ?_ (y:=jm)
   refine rP 11 ?_ (y:=jm)
   refine dD au ?_
   clear hG
   have hS5:=hS4.drew
   clear hS4
   go_wp2_with (first|((with_reducible refine bD ⟨?_⟩);refine dV aQ ah aY bF ak au ?_)|((with_reducible refine bY ⟨?_⟩);refine eY aQ ah ak pQ eF bF au ah ?_;intro wS hS))
   refine (ahe (lv:= .slice la L.l.length lc) L.l i bT.out jA.out (Sat.pk aQ)).mono ?_
   rintro e w6 ⟨v,rfl,da,dn,dc,rfl,hS6⟩
   go_wp2_with ((with_reducible refine bY ⟨?_⟩);refine eY aQ ah ak pQ eF bF au ah ?_;intro wS hS)
   go_ret
   rw [hfin.out,hb1,hb2]
   simp only [akL,akO,ajK]
   exact ⟨_,rfl,rfl,aI.shut2 (lv:= .slice da dn dc) (Sat.sb hS)⟩
theorem Na {L:Seg.Log}{M:ay} (h:M.Ok K) (n:Int):(L.remove M n).1.2.Ok (K+1):=by
 unfold Seg.Log.remove
 split;· exact h.mono (aj8 K)
 split <;> exact h.remove _
theorem aap {L:Seg.Log}{M:ay} (hl:L.l.getLast?=some s) (hf:0<L.fresh):L.rollback M=if (L.remove M s.1).2=0 then Seg.Log.back (L.fresh.toNat - 1) (L.remove M s.1).1.1 (L.remove M s.1).1.2 else L.remove M s.1:=by
 unfold Seg.Log.rollback
 obtain ⟨k,hk⟩:∃ k,L.fresh.toNat=k+1:=⟨L.fresh.toNat - 1,by omega⟩
 rw [hk]
 show (match L.l.getLast? with|none=>_|some s=>_)=_
 rw [hl];rfl
theorem af6 {L:Seg.Log}{M:ay} (hL:L.Ok) (hl:L.l.getLast?=some s) (hf:0<L.fresh) (h:(L.remove M s.1).2=0):(L.remove M s.1).1.1.fresh=L.fresh - 1:=by
 have ha:=hL.Qc hl
 unfold Seg.Log.remove at *
 rw [ha]at h ⊢
 simp only at h ⊢
 split
 ·unfold Seg.Log.without
  have:=hL.fresh
  simp only
  rw [ac3 oQ]
 ·rename_i hh;rw [abw hh]at h;exact absurd h hh
set_option maxRecDepth 20000 in
theorem aeu (hL:L.Ok) (hM:M.Ok K) (jK:K+1048576≤1099511627776) (h:Sat w0 w (aI p m L::aH m M::F)) :
  Calls Tryz.prog 52 #[ptr p] w (aO fun v w'=>v=errno (L.rollback M).2∧Sat w0 w' (aI p m (L.rollback M).1.1::aH m (L.rollback M).1.2::F)):=by
 have hok:Calls Tryz.prog 74 #[ptr p] w (aO fun v w'=>v = .bool true∧w=w'):=by
  obtain ⟨lv,hR⟩:=aI.mP h
  exact qV hR
 have Pv:=uQ (rfl:L.rollback M=L.rollback M)
 generalize hres:L.rollback M=RES at Pv ⊢
 have Hq:=uQ (show L.rollback M=RES from hres)
 have hfl:L.fresh.toNat≤1048576:=by have:=hL.fresh;have:=hL.len;omega
 have hinit:Hid (∃ (L':Seg.Log) (M':ay) (K':Nat),L'.Ok∧M'.Ok K'∧K'+L'.fresh.toNat≤1099511627776∧L'.rollback M'=RES∧L'.fresh.toNat=L.fresh.toNat∧Sat w0 w (aI p m L'::aH m M'::F)):=uQ ⟨L,M,K,hL,hM,by omega,hres,rfl,h⟩
 clear hres Pv hL hM h Hq hfl
 go_enter Tryz.func52,Tryz.ntmps52
 go_wp2_with fail
 refine hok.mono ?_
 rintro e w2 ⟨v,rfl,rfl,rfl⟩
 clear hok
 go_wp2_with fail
 go_loopg [] L.fresh.toNat (fun g wr=>∃ (L':Seg.Log) (M':ay) (K':Nat),L'.Ok∧M'.Ok K'∧K'+L'.fresh.toNat≤1099511627776∧L'.rollback M'=RES∧L'.fresh.toNat=g∧Sat w0 wr (aI p m L'::aH m M'::F))
 case atStart=>exact hinit.out
 case round=>
  obtain ⟨L1,M1,K1,hL,hM,KH,hres,rfl,hS⟩:=hrel
  clear hinit
  by_cases hf:0<L1.fresh
  ·have hne:L1.l≠[]:=by intro e;have:=hL.fresh;rw [e]at this;simp at this;omega
   obtain ⟨s,hl⟩:∃ s,L1.l.getLast?=some s:=⟨_,List.getLast?_eq_some_getLast hne⟩
   have hbl:=aap (M:=M1) hl hf
   rw [hres]at hbl
   have oh:=uQ hbl
   have Zn:=uQ (af6 (M:=M1) hL hl hf)
   have HL2:=uQ (hL.remove M1 s.1)
   have uP:=uQ (Na (L:=L1) hM s.1)
   have hrm:=UU hL hM oQ s.1 hS.drew
   obtain ⟨lv,hR⟩:=aI.mP hS
   have hlen:=hL.len
   obtain ⟨bk,n,cap,cs,rfl,hb,c0,c1,hB⟩:=Xu hl hR
   have hn:=hb.len
   have hn0:(n:Int)<(n:Int)+1:=oQ
   have hwn:IntKind.i64.wrap (n:Int)=(n:Int):=by rw [ajt];omega
   have e4:wr.cell? ⟨p,4,none⟩=some (.int .i64 L1.fresh):=hB.cellP aY 4 rfl
   have hG:wr.drew.cell? ⟨p,2,none⟩=some (.slice (some ⟨bk,0,none⟩) (n+1) cap)∧wr.drew.cell? ⟨bk,n * 2,none⟩=some (.int .i64 s.1):=⟨hB.drew.cellP aY 2 rfl,hB.drew.cellP aY _ c0⟩
   have Hf:=uQ (show 0<L1.fresh∧K1+L1.fresh.toNat≤1099511627776 from ⟨hf,KH⟩)
   clear hbl hne hl hb c0 c1 hB hR hlen hn hres hL hM KH
   go_wp2_with fail
   refine dH [14,15] (fun w'=>w'.cell? ⟨p,2,none⟩=some (.slice (some ⟨bk,0,none⟩) (n+1) cap)∧w'.cell? ⟨bk,n * 2,none⟩=some (.int .i64 s.1)) au ?_
   refine rP 0 ?_ (y:=aX)
   refine rP 1 ?_ (y:=aX)
   refine rP 2 ?_ (y:=dZ)
   refine rP 3 ?_ (y:=cO)
   refine rt 4 (h:=?_)
   refine rP 5 ?_ (y:=aX)
   refine rP 6 ?_ (y:=dZ)
   refine rP 7 ?_ (y:=cO)
   refine rt 8 (h:=?_)
   refine rP 9 ?_ (y:=(nZ ak dh))
   refine rP 10 ?_ (y:=jm)
   refine rP 11 ?_ (y:=gX)
   refine rP 12 ?_ (y:=cO)
   refine rt 13 (h:=?_)
   clear hG e4
   refine bV 14 ak au (fun K hK=>?_)
   (refine gy au ak ak ?_)
   refine hrm.mono ?_
   rintro e w3 ⟨v,rfl,rfl,hS3⟩
   refine hK _ _ (.inl rfl) ?_
   clear hK hS hrm
   refine rP 15 ?_ (y:=fJ)
   refine dD au ?_
   generalize L1.remove M1 s.1=A at *
   obtain ⟨⟨L2,M2⟩,e2⟩:=A
   by_cases he:e2=0
   ·subst he
    have H1:=uQ (oh.out.trans (ac3 rfl))
    have H2:=uQ (show L2.fresh=L1.fresh - 1 from Zn.out rfl)
    go_wp2_with fail
    go_roundg L2.fresh.toNat
    case measure=>have:=H2.out;have:=Hf.out;omega
    case rel=>
     refine ⟨L2,M2,K1+1,HL2.out,uP.out,?_,?_,rfl,hS3⟩
     ·have:=H2.out;have:=Hf.out;omega
     ·rw [H1.out]
      unfold Seg.Log.rollback
      congr 1
      have:=H2.out;have:=Hf.out;omega
   ·have heb:(e2==0)=false:=aj1 he
    have H1:=uQ (oh.out.trans (abw he))
    clear he
    go_wp2_with fail
    go_ret
    rw [H1.out]
    exact ⟨_,rfl,rfl,hS3⟩
  ·have hz:L1.fresh.toNat=0:=by omega
   have H1:=uQ (show RES=(({ L1 with on:=false },M1),0) by
    rw [← hres];unfold Seg.Log.rollback;rw [hz];rfl)
   obtain ⟨lv,hR⟩:=aI.mP hS
   have hle:L1.fresh≤0:=oQ
   clear hres hL hM KH hz hS
   go_wp2_with (first|((with_reducible refine bD ⟨?_⟩);refine dV aQ ah aY bF ak au ?_)|((with_reducible refine bY ⟨?_⟩);refine eY aQ ah ak pQ eF bF au ah ?_;intro wS hS))
   go_ret
   rw [H1.out]
   exact ⟨_,rfl,rfl,aI.shut2 (lv:=lv) (Sat.sb hS)⟩
end
end Go.Proofs.YtiglchkhikciiaaGreatDoor
namespace Go.Seg
open Go.ay
def Log.read (L:Log) (M:ay) (q:aU):aj.aP×Int:=
 match L.at q.seg with
 |none=>(aj.zeroE,9)
 |some _=>
  if (M.read (name q.seg) q.at_ q.size).2≠0 then (aj.zeroE,(M.read (name q.seg) q.at_ q.size).2)
  else if (aj.read (M.read (name q.seg) q.at_ q.size).1).2.2≠0 then (aj.zeroE,(aj.read (M.read (name q.seg) q.at_ q.size).1).2.2)
  else if (aj.read (M.read (name q.seg) q.at_ q.size).1).2.1≠(M.read (name q.seg) q.at_ q.size).1.length then (aj.zeroE,4)
  else ((aj.read (M.read (name q.seg) q.at_ q.size).1).1,0)
theorem MX (l:Bs):(aj.read l).1.key.length=32:=by
 unfold aj.read
 dsimp only
 split;· rfl
 split;· rfl
 split;· rfl
 split;· rfl
 split
 ·rename_i h1 h2 h3 h4 h5
  simp only [acJ,adU]
  simp only [Nat.not_lt]at h3
  omega
 ·rfl
theorem afY {K:Nat}{M:ay} (h:M.Ok K) (s:ByteArray) (a n:Int):(M.read s a n).1.length≤16777216:=by
 unfold ay.read
 dsimp only
 split;· simp
 split;· simp
 rename_i i _
 have:=(h.file i).su
 split;· simp
 split;· simp
 simp only [acJ,adU]
 omega
end Go.Seg
namespace Go.Proofs.YtiglchkhikciiaaGreatDoor
open Go Go.Sl Go.ay Go.MapKept Go.RowKit
section
variable {w0 w:World}{F R:List aG}{v bv dv x lv:Value}{q p m K:Nat}{L:Seg.Log}{M:ay}{s:Int×Int}
set_option maxRecDepth 20000 in
theorem aes (hH:Ro w0 F Half) (hL:L.Ok) (hM:M.Ok K) (pl:Seg.aU) (h1 : -9223372036854775808≤pl.at_∧pl.at_≤9223372036854775807) (h2 : -9223372036854775808≤pl.size∧pl.size≤9223372036854775807) (h:Sat w0 w (aI p m L::aH m M::F)) :
  Calls Tryz.prog 101 #[ptr p,Gh pl] w (aO fun v w'=>∃ da dc,v = .tuple #[.agg (dG (L.read M pl).1 (.slice da (L.read M pl).1.data.length dc)),errno (L.read M pl).2] ∧
   Sat w0 w' (bJ (.slice da (L.read M pl).1.data.length dc) (L.read M pl).1.data::aI p m L::aH m M::F)):=by
 have HH:=uQ hH
 rcases EW (L:=L) pl.seg with ⟨ha,hb⟩|⟨i,ha,hb⟩
 ·have Hf:=uQ (show L.read M pl=(aj.zeroE,9) by unfold Seg.Log.read;rw [ha])
  have Hb:=uQ hb
  clear ha hb hH
  go_enter Tryz.func101,Tryz.ntmps101
  go_wp2_with (first|((with_reducible refine eG ⟨?_⟩);refine eH aQ ak ak ?_;intro bB wB hB)|((with_reducible refine qI ⟨?_⟩);refine rD aQ ?_;intro bE wE hE))
  obtain ⟨lv,hR⟩:=aI.mP (hE.pk (A:=aI p m L))
  refine (qV hR).mono ?_
  rintro e w2 ⟨v,rfl,rfl,rfl⟩
  clear hR lv
  have hf:=Dj hL pl.seg (hE.pk (A:=aI p m L))
  rw [Hb.out]at hf
  go_wp2_with ((with_reducible refine bD ⟨?_⟩);refine dV aQ ah aY bF ak au ?_)
  refine hf.mono ?_
  rintro e w3 ⟨v,rfl,rfl,hS3⟩
  clear hf hE
  go_wp2_with (first|((with_reducible refine vw ⟨?_⟩);refine wU ?_)|((with_reducible refine oH ⟨?_⟩);first|(refine jI aQ ah ah fQ eF sQ ?_;intro wS hS)|(refine jI (e:=aj.zeroE) (da:=none) (dn:=0) (dc:=0) aQ ah ah rfl eF sQ ?_;intro wS hS)))
  rw [Hf.out]
  exact ⟨rfl,_,DJ rfl aQ ah aY rfl,_,rfl,none,0,rfl,Sat.fD.2 (Sat.sb hS)⟩
 ·have nK:=uQ (show L.read M pl=if (M.read (Seg.name pl.seg) pl.at_ pl.size).2≠0 then (aj.zeroE,(M.read (Seg.name pl.seg) pl.at_ pl.size).2)
   else if (aj.read (M.read (Seg.name pl.seg) pl.at_ pl.size).1).2.2≠0 then (aj.zeroE,(aj.read (M.read (Seg.name pl.seg) pl.at_ pl.size).1).2.2)
   else if (aj.read (M.read (Seg.name pl.seg) pl.at_ pl.size).1).2.1≠(M.read (Seg.name pl.seg) pl.at_ pl.size).1.length then (aj.zeroE,4)
   else ((aj.read (M.read (Seg.name pl.seg) pl.at_ pl.size).1).1,0) by unfold Seg.Log.read;rw [ha])
  have Hb:=uQ hb
  have Hrl:=uQ (Seg.afY hM (Seg.name pl.seg) pl.at_ pl.size)
  have hi0:(0:Int)≤(i:Int):=oQ
  have hd:decide ((i:Int)<0)=false:=aex oQ
  clear ha hb hH
  go_enter Tryz.func101,Tryz.ntmps101
  go_wp2_with (first|((with_reducible refine eG ⟨?_⟩);refine eH aQ ak ak ?_;intro bB wB hB)|((with_reducible refine qI ⟨?_⟩);refine rD aQ ?_;intro bE wE hE))
  obtain ⟨lv,hR⟩:=aI.mP (hE.pk (A:=aI p m L))
  refine (qV hR).mono ?_
  rintro e w2 ⟨v,rfl,rfl,rfl⟩
  clear hR lv
  have hf:=Dj hL pl.seg (hE.pk (A:=aI p m L))
  rw [Hb.out]at hf
  go_wp2_with ((with_reducible refine bD ⟨?_⟩);refine dV aQ ah aY bF ak au ?_)
  refine hf.mono ?_
  rintro e w3 ⟨v,rfl,rfl,hS3⟩
  clear hf hE
  obtain ⟨lv,hR⟩:=aI.mP hS3
  clear hS3
  go_wp2_with fail
  refine dH [11,12,13,14,15,16] (fun w'=>w'.cell? ⟨p,0,none⟩=some (ptr m)∧w'.cell? ⟨bB,0,none⟩=some (.int .i64 pl.seg)∧w'.cell? ⟨bB,1,none⟩=some (.int .i64 pl.at_)∧w'.cell? ⟨bB,2,none⟩=some (.int .i64 pl.size)) au ?_
  have hG:w3.drew.cell? ⟨p,0,none⟩=some (ptr m)∧w3.drew.cell? ⟨bB,0,none⟩=some (.int .i64 pl.seg)∧w3.drew.cell? ⟨bB,1,none⟩=some (.int .i64 pl.at_)∧w3.drew.cell? ⟨bB,2,none⟩=some (.int .i64 pl.size):=⟨hR.drew.cellP aY 0 rfl,hR.drew.cellP aY 0 rfl,hR.drew.cellP aY 1 rfl,hR.drew.cellP aY 2 rfl⟩
  refine rP 0 ?_ (y:=aX)
  refine rP 1 ?_ (y:=dZ)
  refine rP 2 ?_ (y:=cO)
  refine rt 3 (h:=?_)
  refine rP 4 ?_ (y:=cO)
  refine rt 5 (h:=?_)
  refine rP 7 ?_ (y:=cO)
  refine rt 8 (h:=?_)
  refine rP 9 ?_ (y:=cO)
  refine rt 10 (h:=?_)
  clear hG
  refine bV 6 ak au (fun K hK=>?_)
  (refine pF au ak ?_)
  refine (wP pl.seg hR.drew).mono ?_
  rintro e w4 ⟨v,rfl,rfl,hS4⟩
  refine hK _ _ (.inr (.inl ⟨hS4.cellP aY 0 rfl,hS4.cellP aY 0 rfl,hS4.cellP aY 1 rfl,hS4.cellP aY 2 rfl⟩)) ?_
  clear hK hR
  refine bV 11 ak au (fun K hK=>?_)
  (refine aby au ak ak ak ak ?_)
  refine (afX hM (Sat.pk aQ) _ pl.at_ pl.size h1 h2).mono ?_
  rintro e w5 ⟨v,rfl,bv,rfl,hS5⟩
  refine hK _ _ (.inl rfl) ?_
  clear hK hS4 h1 h2
  refine rP 12 ?_ (y:=aX)
  refine rP 13 ?_ (y:=(jw ak dh))
  refine rP 14 ?_ (y:=(jw ak dh))
  refine rP 15 ?_ (y:=fJ)
  refine rP 16 ?_ (y:=fJ)
  refine dD au ?_
  generalize M.read (Seg.name pl.seg) pl.at_ pl.size=RR at *
  obtain ⟨bs,e1⟩:=RR
  by_cases he:e1=0
  rotate_left
  ·have heb:(e1==0)=false:=aj1 he
   have Hf:=uQ (nK.out.trans (ac3 he))
   clear he
   go_wp2_with (first|((with_reducible refine vw ⟨?_⟩);refine wU ?_)|((with_reducible refine oH ⟨?_⟩);first|(refine jI aQ ah ah fQ eF sQ ?_;intro wS hS)|(refine jI (e:=aj.zeroE) (da:=none) (dn:=0) (dc:=0) aQ ah ah rfl eF sQ ?_;intro wS hS)))
   rw [Hf.out]
   exact ⟨rfl,_,DJ rfl aQ ah aY rfl,_,rfl,none,0,rfl,Sat.fD.2 (Sat.pick (aI.shut2 (lv:=lv) (Sat.sb hS)) aT)⟩
  subst he
  have Jp:=uQ (nK.out.trans (abw (fun h=>h rfl)))
  clear nK
  obtain ⟨ba,bn,bc,hbv,hbn,hbc,hbl⟩:=zo hS5
  subst hbv
  subst hbl
  have hfr:=RY bs (bv:= .slice ba bs.length bc) (Ro.op (Ro.bJ _ _)) ⟨_,_,_,rfl,hbn,hbc⟩ (Ro.os HH.out) (by have:=Hrl.out;simp only at this;omega) hS5
  have hkey:=Seg.MX bs
  generalize aj.read bs=FR at *
  obtain ⟨fe,fn,e2⟩:=FR
  simp only at hfr hkey
  go_wp2_with fail
  refine hfr.mono ?_
  rintro e w6 ⟨v,rfl,da,dc,rfl,hS6⟩
  clear hfr hS5
  by_cases he2:e2=0
  rotate_left
  ·have heb:(e2==0)=false:=aj1 he2
   have Hf:=uQ (Jp.out.trans (ac3 he2))
   clear he2
   go_wp2_with (first|((with_reducible refine qI ⟨?_⟩);refine rD aQ ?_;intro bE wE hE)|((with_reducible refine vw ⟨?_⟩);refine wU ?_)|((with_reducible refine oH ⟨?_⟩);first|(refine jI aQ ah ah fQ eF sQ ?_;intro wS hS)|(refine jI (e:=aj.zeroE) (da:=none) (dn:=0) (dc:=0) aQ ah ah rfl eF sQ ?_;intro wS hS)))
   rw [Hf.out]
   exact ⟨rfl,_,DJ rfl aQ ah aY rfl,_,rfl,none,0,rfl,Sat.fD.2 (Sat.pick (aI.shut2 (lv:=lv) (Sat.sb hS)) aT)⟩
  subst he2
  have Jq:=uQ (Jp.out.trans (abw (fun h=>h rfl)))
  clear Jp
  by_cases hn:fn=bs.length
  rotate_left
  ·have hnb:((fn:Int)==(bs.length:Int))=false:=by rw [adW];omega
   have Hf:=uQ (Jq.out.trans (ac3 hn))
   clear hn
   go_wp2_with (first|((with_reducible refine qI ⟨?_⟩);refine rD aQ ?_;intro bE wE hE)|((with_reducible refine vw ⟨?_⟩);refine wU ?_)|((with_reducible refine oH ⟨?_⟩);first|(refine jI aQ ah ah fQ eF sQ ?_;intro wS hS)|(refine jI (e:=aj.zeroE) (da:=none) (dn:=0) (dc:=0) aQ ah ah rfl eF sQ ?_;intro wS hS)))
   rw [Hf.out]
   exact ⟨rfl,_,DJ rfl aQ ah aY rfl,_,rfl,none,0,rfl,Sat.fD.2 (Sat.pick (aI.shut2 (lv:=lv) (Sat.sb hS)) aT)⟩
  have Hf:=uQ (Jq.out.trans (abw (fun h=>h hn)))
  have hnb:((fn:Int)==(bs.length:Int))=true:=by rw [akr];omega
  clear hn Jq
  go_wp2_with (first|((with_reducible refine qI ⟨?_⟩);refine rD aQ ?_;intro bE wE hE)|((with_reducible refine Bz ⟨?_⟩);refine DV aQ ah aY fQ ?_)|((with_reducible refine oH ⟨?_⟩);first|(refine jI aQ ah ah fQ eF sQ ?_;intro wS hS)|(refine jI (e:=aj.zeroE) (da:=none) (dn:=0) (dc:=0) aQ ah ah rfl eF sQ ?_;intro wS hS)))
  rw [Hf.out]
  exact ⟨rfl,_,DJ rfl aQ ah aY hkey,_,rfl,da,dc,rfl,Sat.sub (aI.shut2 (lv:=lv) (Sat.sb hS)) jH⟩
end
end Go.Proofs.YtiglchkhikciiaaGreatDoor
namespace Go.Seg
open Go.ay
structure Alike (M M':ay):Prop where
 now:M'.now=M.now
 room:M'.room=M.room
 off:M'.off=M.off
 bytes:∀ p∈M.now,(M'.file p.2).now=(M.file p.2).now
theorem Alike.refl (M:ay):Alike M M:=⟨rfl,rfl,rfl,fun _ _=>rfl⟩
theorem Alike.trans {A B C:ay} (h:Alike A B) (k:Alike B C):Alike A C:=
 ⟨k.now.trans h.now,k.room.trans h.room,k.off.trans h.off,fun p hp=>(k.bytes p (by rw [h.now];exact hp)).trans (h.bytes p hp)⟩
theorem Alike.used {M M':ay} (h:Alike M M'):M'.used=M.used:=by
 unfold ay.used;rw [h.now]
 exact aje List.sum (akz fun p hp=>by rw [h.bytes p hp])
theorem Alike.all {M M':ay} (h:Alike M M') (s:ByteArray):M'.all s=M.all s:=by
 unfold ay.all;rw [h.off,h.now]
 cases hg:bP M.now s with
 |none=>rfl
 |some i=>simp only;rw [h.bytes (s,i) (jk hg)]
theorem G9 {M:ay}{K:Nat} (ok:M.Ok K) (q:Quiet M) (s:ByteArray):Alike M (M.sync s).1:=by
 cases hg:bP M.now s with
 |none=>
  have:M.sync s=(M,9):=by unfold ay.sync;rw [q.off,hg];rfl
  rw [this];exact Alike.refl M
 |some i=>
  rw [q.DN hg]
  refine ⟨rfl,rfl,rfl,fun p hp=>?_⟩
  show ((M.gZ i _).file p.2).now=_
  rw [BG (ok.fH.ids _ (jk hg))]
  split
  ·rename_i e;rw [e];rfl
  ·rfl
theorem tN {M:ay} (q:Quiet M) (s:ByteArray) (b:Bs) :
  bP M.now s=none∧M.append s b=(M,9)∨∃ i,bP M.now s=some i∧((M.room:Int) - M.used<b.length∧M.append s b=(M,11)∨¬ (M.room:Int) - M.used<b.length∧M.append s b=(M.gZ i ((M.file i).do ⟨false,0,b⟩),0)):=by
 unfold ay.append
 rw [q.off,q.step]
 cases hg:bP M.now s with
 |none=>exact .inl ⟨rfl,rfl⟩
 |some i=>
  refine .inr ⟨i,rfl,?_⟩
  simp only [ajK,akO,Bool.true_eq_false]
  by_cases h:(M.room:Int) - M.used<b.length
  ·exact .inl ⟨h,by rw [ac3 h]⟩
  ·exact .inr ⟨h,by rw [abw h]⟩
theorem BD {M:ay} (q:Quiet M) (s:ByteArray) :
  (M.create s).2≠0∧(M.create s).2≠11∧(M.create s).1=M∨good s=true∧bP M.now s=none∧M.now.length<500∧M.create s=({ M with files:=M.files++[bC.new],now:=jP M.now s M.files.length,waits:=M.waits++[⟨ByteArray.empty,s,M.files.length⟩] },0):=by
 unfold ay.create
 rw [q.off,q.step]
 simp only [ajK,akO,Bool.true_eq_false]
 by_cases h1:good s=false
 ·rw [ac3 h1];exact .inl ⟨by simp,by simp,rfl⟩
 rw [abw h1]
 by_cases h2:(bP M.now s).isSome=true
 ·rw [ac3 h2];exact .inl ⟨by simp,by simp,rfl⟩
 rw [abw h2]
 by_cases h3:500≤M.now.length
 ·rw [ac3 h3];exact .inl ⟨by simp,by simp,rfl⟩
 rw [abw h3]
 have hg:good s=true:=by simpa using h1
 refine .inr ⟨hg,by simpa using h2,by omega,?_⟩
 unfold ay.link gV.on
 simp only [akL,abw (pI hg)]
 rw [q.off]
theorem DI {M:ay} (q:Quiet M){s:ByteArray}{i:Nat} (h:bP M.now s=some i):M.remove s=(M.link ⟨s,ByteArray.empty,0⟩,0):=by
 unfold ay.remove
 rw [q.off,q.step,h]
 simp
theorem Du {l:Names}{s t:ByteArray} (h:s≠t):bP (fK l t) s=bP l s:=by
 induction l with
 |nil=>rfl
 |cons p l ih=>
  unfold bP fK at *
  rw [List.filter_cons]
  by_cases e:p.1=t
  ·rw [abw (by simp [bne,mF,e])]
   rw [ih,List.find?_cons]
   have:(p.1==s)=false:=by rw [mF,e];exact aex (fun hh=>h hh.symm)
   rw [this]
  ·rw [ac3 (by simp [mF,bne,e]),List.find?_cons,List.find?_cons]
   cases (p.1==s)
   ·exact ih
   ·rfl
theorem aeU {l:Names}{s t:ByteArray}{i:Nat} (h:s≠t):bP (qx l t i) s=bP l s:=by
 have ht:(t==s)=false:=by rw [mF];exact aex (fun hh=>h hh.symm)
 induction l with
 |nil=>unfold qx bP;simp [ht]
 |cons p l ih=>
  unfold qx
  split
  ·unfold bP;rw [List.find?_cons,ht]
  ·unfold bP at *
   rw [List.find?_cons,List.find?_cons]
   cases (p.1==s)
   ·exact ih
   ·rfl
theorem zM {l:Names}{s t:ByteArray}{i:Nat} (h:s≠t):bP (jP l t i) s=bP l s:=by
 unfold jP;rw [aeU h,Du h]
theorem zN {l:Names} (hs:lS l) (s:ByteArray) (i:Nat):bP (jP l s i) s=some i:=
 zL (hs.put s i).keys ((uz l s i).mem_iff.2 (.head _))
theorem aeH (l:Names) (s:ByteArray) (i:Nat):fK (qx l s i) s=fK l s:=by
 induction l with
 |nil=>unfold qx fK;simp [bne,mF]
 |cons p l ih=>
  unfold qx
  split
  ·unfold fK;rw [List.filter_cons,abw (by simp [bne,mF])]
  ·unfold fK at *
   rw [List.filter_cons,List.filter_cons,ih]
theorem L6 {l:Names}{s:ByteArray}{i:Nat} (h:bP l s=none):fK (jP l s i) s=l:=by
 unfold jP;rw [aeH,vW h,vW h]
structure Calm (K room:Nat) (M:ay):Prop where
 ok:M.Ok K
 quiet:Quiet M
 dst:pR M
 used:M.used≤M.room
 room:M.room=room
section
variable {K r:Nat}{M:ay}{L:Log}
theorem Calm.mono {K':Nat} (h:Calm K r M) (hk:K≤K'):Calm K' r M:=⟨h.ok.mono hk,h.quiet,h.dst,h.used,h.room⟩
theorem Calm.new (K r:Nat) (h:r≤16777216):Calm K r (new r):=⟨ay.Ok.new K r h,Quiet.new r,List.nodup_nil,afm _,rfl⟩
theorem Calm.create (h:Calm K r M) (s:ByteArray):Calm (K+1) r (M.create s).1:=by
 have f:=(Fits.does h.ok h.dst h.used ⟨0,s,s,0,0,[],[]⟩ (show (0:Int)≠8 by decide) (show (0:Int)≠9 by decide)).1
 exact ⟨h.ok.create s,h.quiet.create s,f.dst,f.used,f.room.trans h.room⟩
theorem Calm.append (h:Calm K r M) (s:ByteArray) (b:Bs):Calm (K+1) r (M.append s b).1:=by
 have f:=(Fits.does h.ok h.dst h.used ⟨1,s,s,0,0,b,[]⟩ (show (1:Int)≠8 by decide) (show (1:Int)≠9 by decide)).1
 exact ⟨h.ok.append s b,h.quiet.append s b,f.dst,f.used,f.room.trans h.room⟩
theorem Calm.remove (h:Calm K r M) (s:ByteArray):Calm (K+1) r (M.remove s).1:=by
 have f:=(Fits.does h.ok h.dst h.used ⟨4,s,s,0,0,[],[]⟩ (show (4:Int)≠8 by decide) (show (4:Int)≠9 by decide)).1
 exact ⟨h.ok.remove s,h.quiet.remove s,f.dst,f.used,f.room.trans h.room⟩
theorem Calm.sync (h:Calm K r M) (s:ByteArray):Calm (K+1) r (M.sync s).1:=by
 have f:=(Fits.does h.ok h.dst h.used ⟨5,s,s,0,0,[],[]⟩ (show (5:Int)≠8 by decide) (show (5:Int)≠9 by decide)).1
 exact ⟨h.ok.sync s,h.quiet.sync s,f.dst,f.used,f.room.trans h.room⟩
theorem Calm.dN (h:Calm K r M):Calm K r M.dN.1:=by
 have f:=(Fits.does h.ok h.dst h.used ⟨6,ByteArray.empty,ByteArray.empty,0,0,[],[]⟩ (show (6:Int)≠8 by decide) (show (6:Int)≠9 by decide)).1
 exact ⟨h.ok.dN,h.quiet.dN,f.dst,f.used,f.room.trans h.room⟩
def Has (L:Log) (M:ay):Prop:=∀ s∈L.l,∃ i,bP M.now (name s.1)=some i
structure Keeps (K r:Nat) (L:Log) (M:ay):Prop where
 log:L.Ok
 calm:Calm K r M
 has:Has L M
theorem Keeps.mono {K':Nat} (h:Keeps K r L M) (hk:K≤K'):Keeps K' r L M:=⟨h.log,h.calm.mono hk,h.has⟩
theorem Keeps.shut (h:Keeps K r L M):Keeps (K+1) r (L.shut M).1.1 (L.shut M).1.2∧(L.shut M).2=0∧(L.shut M).1.1.l=L.l∧(L.shut M).1.1.fresh=L.fresh∧Alike M (L.shut M).1.2:=by
 have gG:=h.log.shut M
 cases hon:L.on with
 |false=>rw [Log.Xz M hon]at gG ⊢;exact ⟨h.mono (aj8 K),rfl,rfl,rfl,Alike.refl M⟩
 |true=>
  obtain ⟨s,hl⟩:=h.log.last hon
  rw [Log.XA M hl hon]at gG ⊢
  obtain ⟨i,hi⟩:=h.has s (akj hl)
  have e:=h.calm.quiet.DN hi
  have e2:(M.sync (name s.1)).2=0:=by rw [e]
  have ha:=G9 h.calm.ok h.calm.quiet (name s.1)
  have hc:=h.calm.sync (name s.1)
  rw [ac3 e2]at gG ⊢
  exact ⟨⟨gG,hc,fun t ht=>by rw [ha.now];exact h.has t ht⟩,rfl,rfl,rfl,ha⟩
theorem Keeps.je (h:Keeps K r L M) (b:Bs) (hb:b.length≤16777216):Keeps (K+3) r (L.je M b).1.1 (L.je M b).1.2 ∧
  ((L.je M b).2.2≠0→(L.je M b).1.1=L∧Alike M (L.je M b).1.2∧((L.je M b).2.2=11→(M.room:Int) - M.used<b.length+8)):=by
 have gG:=h.log.je M b hb
 obtain ⟨n1,n2,n3⟩:=h.log.next
 unfold Log.je at gG ⊢
 by_cases h1:1048576≤L.next
 ·rw [ac3 h1]at gG ⊢
  exact ⟨h.mono oQ,fun _=>⟨rfl,Alike.refl M,fun hh=>by cases hh⟩⟩
 rw [abw h1]at gG ⊢
 have hc1:=h.calm.create (name L.next)
 rcases BD h.calm.quiet (name L.next) with ⟨c1,c2,c3⟩|⟨hg,hn,hl,c⟩
 ·rw [ac3 c1]at gG ⊢
  simp only [c3]at gG hc1 ⊢
  exact ⟨h.mono oQ,fun _=>⟨by first|trivial|rfl,Alike.refl M,fun hh=>absurd hh c2⟩⟩
 have c0:(M.create (name L.next)).2=0:=by rw [c]
 rw [abw (fun hh=>hh c0)]at gG ⊢
 have hself:bP (M.create (name L.next)).1.now (name L.next)=some M.files.length:=by
  rw [c];exact zN h.calm.ok.fH.lF _ _
 have CW:(M.create (name L.next)).1.used=M.used∧(M.create (name L.next)).1.room=M.room:=by
  refine ⟨?_,by rw [c]⟩
  rw [c]
  show ((jP M.now (name L.next) M.files.length).map fun p=>((M.files++[bC.new]).getD p.2 bC.new).now.length).sum=_
  rw [Am _ _ _ (fun j=>((M.files++[bC.new]).getD j bC.new).now.length),vW hn]
  have e0:((M.files++[bC.new]).getD M.files.length bC.new).now.length=0:=by simp [bC.new]
  rw [e0,aen]
  refine ay.G5 (g:=fun j=>((M.files++[bC.new]).getD j bC.new).now.length) (h:=fun j=>(M.file j).now.length) fun p hp=>?_
  have:=h.calm.ok.fH.ids p hp
  simp only [ay.file,adP]
  rw [adV this]
 have hhas:Has L (M.create (name L.next)).1:=fun s hs=>by
  obtain ⟨i,hi⟩:=h.has s hs
  rw [c]
  refine ⟨i,?_⟩
  show bP (jP M.now (name L.next) M.files.length) (name s.1)=_
  rw [zM (fun e=>by rw [e,hn]at hi;cases hi)]
  exact hi
 have hc2:=hc1.append (name L.next) (mag++b)
 rcases tN hc1.quiet (name L.next) (mag++b) with ⟨a1,_⟩|⟨i,a1,⟨a2,a3⟩|⟨a2,a3⟩⟩
 ·rw [hself]at a1;cases a1
 ·have e1:((M.create (name L.next)).1.append (name L.next) (mag++b)).2=11:=by rw [a3]
  have e1':¬ ((M.create (name L.next)).1.append (name L.next) (mag++b)).2=0:=by rw [e1];decide
  have e2:((M.create (name L.next)).1.append (name L.next) (mag++b)).1=(M.create (name L.next)).1:=by rw [a3]
  have e3:=DI hc1.quiet hself
  have hc3:=hc1.remove (name L.next)
  rw [abw e1',ac3 e1]at gG ⊢
  rw [e2]at *
  have e4:((M.create (name L.next)).1.remove (name L.next)).2=0:=by rw [e3]
  have ha:Alike M ((M.create (name L.next)).1.remove (name L.next)).1:=by
   rw [e3,c]
   refine ⟨?_,rfl,rfl,fun p hp=>?_⟩
   ·show gV.on ⟨name L.next,ByteArray.empty,0⟩ (jP M.now (name L.next) M.files.length)=M.now
    unfold gV.on
    simp only [abw (pI hg),akL]
    exact L6 hn
   ·have:=h.calm.ok.fH.ids p hp
    simp only [ay.file,ay.link,adP]
    rw [adV this]
  refine ⟨⟨gG,hc3.mono oQ,fun s hs=>by rw [ha.now];exact h.has s hs⟩,fun _=>⟨rfl,ha,fun _=>?_⟩⟩
  rw [CW.1,CW.2,aal]at a2
  have:mag.length=8:=rfl
  omega
 ·have e1:((M.create (name L.next)).1.append (name L.next) (mag++b)).2=0:=by rw [a3]
  rw [ac3 e1]at gG ⊢
  refine ⟨⟨gG,hc2.mono oQ,fun s hs=>?_⟩,fun hh=>absurd rfl hh⟩
  rw [a3]
  show ∃ j,bP (M.create (name L.next)).1.now (name s.1)=some j
  rcases ajk.1 hs with hs|hs
  ·exact hhas s hs
  ·rw [aiR.1 hs];exact ⟨_,hself⟩
theorem Keeps.begin (h:Keeps K r L M) (b:Bs) (hb:b.length≤16777216):Keeps (K+4) r (L.begin M b).1.1 (L.begin M b).1.2 ∧
  ((L.begin M b).2.2≠0→(L.begin M b).1.1.l=L.l∧(L.begin M b).1.1.fresh=L.fresh∧Alike M (L.begin M b).1.2∧((L.begin M b).2.2=11→(M.room:Int) - M.used<b.length+8)):=by
 obtain ⟨h1,h2,h3,h4,h5⟩:=h.shut
 unfold Log.begin
 rw [ac3 h2]
 obtain ⟨k1,k2⟩:=h1.je b hb
 refine ⟨k1,fun hh=>?_⟩
 obtain ⟨k3,k4,k5⟩:=k2 hh
 rw [k3]
 exact ⟨h3,h4,h5.trans k4,fun e=>by rw [← h5.used,← h5.room];exact k5 e⟩
theorem Keeps.grow (h:Keeps K r L M) (b:Bs) (hf:L.fits b.length=true):Keeps (K+1) r (L.grow M b).1.1 (L.grow M b).1.2 ∧
  ((L.grow M b).2.2≠0→(L.grow M b).1.1=L∧Alike M (L.grow M b).1.2∧((L.grow M b).2.2=11→(M.room:Int) - M.used<b.length)):=by
 have gG:=h.log.grow M b hf
 unfold Log.grow at gG ⊢
 cases hl:L.l.getLast? with
 |none=>exact ⟨h.mono (aj8 K),fun hh=>absurd rfl hh⟩
 |some s=>
  rw [hl]at gG
  simp only at gG ⊢
  have hc:=h.calm.append (name s.1) b
  obtain ⟨j,hj⟩:=h.has s (akj hl)
  rcases tN h.calm.quiet (name s.1) b with ⟨a1,_⟩|⟨i,a1,⟨a2,a3⟩|⟨a2,a3⟩⟩
  ·rw [hj]at a1;cases a1
  ·rw [a3]at gG hc ⊢
   rw [abw (show ¬ ((M,(11:Int)).2=0) from (by simp))]at gG ⊢
   exact ⟨h.mono (aj8 K),fun _=>⟨rfl,Alike.refl M,fun _=>a2⟩⟩
  ·rw [a3]at gG hc ⊢
   rw [ac3 rfl]at gG ⊢
   refine ⟨⟨gG,hc,fun t ht=>?_⟩,fun hh=>absurd rfl hh⟩
   show ∃ j,bP M.now (name t.1)=some j
   rcases ajk.1 ht with ht|ht
   ·exact h.has t ((List.dropLast_subset _ ht))
   ·rw [aiR.1 ht];exact ⟨j,hj⟩
theorem GY {x:aj.aP} (h:(aj.encode x).2=0) (hk:x.key.length=32):(aj.encode x).1.length=aj.size x:=by
 unfold aj.encode at *
 split at h
 ·rename_i hc;exact absurd h hc
 ·rename_i hc
  rw [abw hc]
  unfold aj.body aj.size
  simp only [aal,aj.iH,adX,abw hc]
  split
  ·rename_i ht
   have:x.data.length=0:=by
    simp only [Decidable.not_not]at hc
    unfold aj.check at hc
    rw [ht]at hc
    simp only [show ¬ ((2:Int)=0) by decide,akO,akL]at hc
    split at hc
    ·cases hc
    split at hc
    ·cases hc
    omega
   simp;omega
  ·omega
theorem Keeps.append (h:Keeps K r L M) (x:aj.aP) (hk:x.key.length=32):Keeps (K+4) r (L.append M x).1.1 (L.append M x).1.2 ∧
  ((L.append M x).2.2≠0→(L.append M x).1.1.l=L.l∧(L.append M x).1.1.fresh=L.fresh∧Alike M (L.append M x).1.2∧((L.append M x).2.2=11→(M.room:Int) - M.used<aj.size x+8)):=by
 have hl:=encode_len x hk
 by_cases h1:(aj.encode x).2=0
 ·have hz:=GY h1 hk
  cases hf:L.fits (aj.encode x).1.length with
  |true=>
   rw [Log.xK h1 hf]
   obtain ⟨k1,k2⟩:=h.grow _ hf
   refine ⟨k1.mono oQ,fun hh=>?_⟩
   obtain ⟨k3,k4,k5⟩:=k2 hh
   rw [k3]
   exact ⟨rfl,rfl,k4,fun e=>by have:=k5 e;omega⟩
  |false=>
   rw [Log.xJ h1 hf]
   obtain ⟨k1,k2⟩:=h.begin _ (by omega:(aj.encode x).1.length≤16777216)
   exact ⟨k1,fun hh=>by rw [← hz];exact k2 hh⟩
 ·rw [Log.Es h1]
  refine ⟨h.mono oQ,fun _=>⟨rfl,rfl,Alike.refl M,fun e=>?_⟩⟩
  exfalso
  have e':(aj.encode x).2=11:=e
  unfold aj.encode at e'
  split at e'
  ·simp only at e'
   unfold aj.check at e'
   repeat' split at e'
   all_goals cases e'
  ·cases e'
theorem PY (h:Keeps K r L M) (x:aj.aP) (hk:x.key.length=32) (h0:(L.append M x).2.2=0):∃ i,bP (L.append M x).1.2.now (name (L.append M x).2.1.seg)=some i:=by
 have hK:=(h.append x hk).1
 have key:∃ s,(L.append M x).1.1.l.getLast?=some s∧s.1=(L.append M x).2.1.seg:=by
  by_cases h1:(aj.encode x).2=0
  ·cases hf:L.fits (aj.encode x).1.length with
   |true=>
    rw [Log.xK h1 hf]at h0 ⊢
    unfold Log.grow at h0 ⊢
    cases hl:L.l.getLast? with
    |none=>
     exfalso
     unfold Log.fits at hf
     rw [ajc]at hf
     exact h.log.on hf.1 (akP.1 hl)
    |some s=>
     rw [hl]at h0
     simp only at h0 ⊢
     split at h0
     ·rename_i e;rw [ac3 e];exact ⟨(s.1,s.2+((aj.encode x).1.length:Int)),by simp,rfl⟩
     ·rename_i e;exact absurd h0 e
   |false=>
    rw [Log.xJ h1 hf]at h0 ⊢
    unfold Log.begin at h0 ⊢
    split at h0
    ·rename_i e
     rw [ac3 e]
     unfold Log.je at h0 ⊢
     split at h0
     ·cases h0
     rename_i e1
     rw [abw e1]
     split at h0
     ·rename_i e2;exact absurd h0 e2
     rename_i e2
     rw [abw e2]
     split at h0
     ·rename_i e3;rw [ac3 e3];exact ⟨((L.shut M).1.1.next,8+((aj.encode x).1.length:Int)),by simp,rfl⟩
     ·split at h0
      ·rename_i e3 e4
       simp only at h0
       split at h0
       ·cases h0
       ·rename_i e5;exact absurd h0 e5
      ·rename_i e3 e4;exact absurd h0 e3
    ·rename_i e;exact absurd h0 e
  ·rw [Log.Es h1]at h0;exact absurd h0 h1
 obtain ⟨s,hs,e⟩:=key
 rw [← e]
 exact hK.has s (akj hs)
theorem Keeps.commit (h:Keeps K r L M):Keeps (K+5) r (L.commit M).1.1 (L.commit M).1.2:=by
 obtain ⟨k1,_⟩:=h.append dA rfl
 have gG:=h.log.commit M
 rw [Log.zq]at gG ⊢
 split
 ·exact k1.mono oQ
 rename_i e1
 rw [abw e1]at gG
 simp only [Decidable.not_not]at e1
 obtain ⟨i,hi⟩:=PY h dA rfl e1
 have es:=k1.calm.quiet.DN hi
 have hc2:=k1.calm.sync (name (L.append M dA).2.1.seg)
 have hs2:((L.append M dA).1.2.sync (name (L.append M dA).2.1.seg)).2=0:=by rw [es]
 rw [abw (fun hh=>hh hs2)]at gG ⊢
 have hd:=hc2.quiet.G8
 have hd2:(((L.append M dA).1.2.sync (name (L.append M dA).2.1.seg)).1.dN).2=0:=by rw [hd]
 rw [abw (fun hh=>hh hd2)]at gG ⊢
 refine ⟨gG,hc2.dN,fun s hs=>?_⟩
 obtain ⟨j,hj⟩:=k1.has s hs
 refine ⟨j,?_⟩
 show bP (((L.append M dA).1.2.sync (name (L.append M dA).2.1.seg)).1.dN).1.now (name s.1)=some j
 rw [hd]
 show bP ((L.append M dA).1.2.sync (name (L.append M dA).2.1.seg)).1.now (name s.1)=some j
 rw [es]
 exact hj
end
end Go.Seg
namespace Go.Proofs.YtiglchkhikciiaaGreatDoor
open Go Go.Sl Go.ay Go.MapKept Go.RowKit
def qO:ay:=ay.new 1000
theorem aek:Seg.alive qO=0:=by kernel_rfl
theorem UO:Seg.fresh qO 200=⟨200,[],false,0⟩:=by kernel_rfl
section
variable {w0 w:World}{F:List aG}
end
end Go.Proofs.YtiglchkhikciiaaGreatDoor
namespace Go.Seg
theorem FX (n:Int) (h1:0≤n) (h2:n<1048576):number (name n)=(n,true):=by
 unfold name
 rw [abw oQ]
 unfold number
 have hl:(lead++gK n.toNat 8).length=12:=by rw [aal,vH];rfl
 have hd:(lead++gK n.toNat 8).drop 4=gK n.toNat 8:=rfl
 have ht:(lead++gK n.toNat 8).take 4=lead:=rfl
 have hv:=ais 8 n.toNat oQ
 simp only [hl,hd,ht,J8,hv,true_and]
 rw [ac3 oQ]
 simp only [Prod.mk.injEq,and_true]
 omega
end Go.Seg
namespace Go.Proofs.YtiglchkhikciiaaGreatDoor
open Go Go.Sl Go.ay Go.MapKept Go.RowKit
section
variable {w0 w:World}{F:List aG}
end
end Go.Proofs.YtiglchkhikciiaaGreatDoor
