import Derived.Test.YtjbhhbnopnmcnaaGreatDoorJ11
import Derived.Test.YtjbhhbnopnmcnaaGreatDoorRows
import Derived.Test.YtjbhhbnopnmcnaaGreatDoorCards
import Derived.Test.YtjbhhbnopnmcnaaGreatDoorTie
import Derived.ProofKit
import Derived.LaidMore
import Derived.OpenShut
import Derived.ShutString
import Derived.SevenTiedAt
set_option linter.unusedVariables false
set_option maxHeartbeats 128000000
namespace Go.Proofs.YtjbhhbnopnmcnaaGreatDoor
open Go Go.Sl Go.Med Go.ChangeShapes Go.WideShapes Go.RowKit
structure QD.At (W:World) (d:QD):Prop where
 kind:inI d.c.kind
 key:d.c.key.length=32
 rd:rdsl 1 d.dv (bys d.c.data) W
 cap:capOk d.dv
 n:inI d.c.n
 m:inI d.c.m
 rl:rdsl 1 d.lv (ints d.c.l) W
 capl:capOk d.lv
 ins:∀ i∈d.c.l,inI i
section
variable {H:Type}{enc:TypeId×Value→H}{W:World}{base:Nat}{spare:Nat→Bool}{held:Bool}
set_option maxRecDepth 100000 in
theorem open_qd {fuel:Nat}{cs:List Value}{x:DataW H×List MemPlace} (h:DataW.trod enc Tryz.prog W base spare held fuel 41 cs=some x):∃ d:QD,qdL d=cs∧d.At W:=by
 obtain ⟨hl,hf⟩:=open_fields Tryz.underlying41 h
 have e37:Tryz.prog.cellsOf 41=37:=by kernel_rfl
 have e1:Tryz.prog.cellsOf 3=1:=by kernel_rfl
 have e2:Tryz.prog.cellsOf 31=32:=by kernel_rfl
 have e3:Tryz.prog.cellsOf 38=1:=by kernel_rfl
 have e5:Tryz.prog.cellsOf 5=1:=by kernel_rfl
 have e4:Tryz.prog.cellsOf 39=1:=by kernel_rfl
 rw [e37]at hl
 obtain ⟨n0,y0,h0⟩:=hf 0 _ rfl
 obtain ⟨n1,y1,h1⟩:=hf 1 _ rfl
 obtain ⟨n2,y2,h2⟩:=hf 2 _ rfl
 obtain ⟨n3,y3,h3⟩:=hf 3 _ rfl
 obtain ⟨n4,y4,h4⟩:=hf 4 _ rfl
 obtain ⟨n5,y5,h5⟩:=hf 5 _ rfl
 simp only [List.getElem_toArray,List.getElem_cons_zero,List.getElem_cons_succ,e1,e2,e3,e4,List.drop_zero]at h0 h1 h2 h3 h4 h5
 obtain ⟨z0,q0,_,w0⟩:=DataW.trod_int Tryz.underlying3 h0
 obtain ⟨kl,k1,k2⟩:=open_key Tryz.underlying31 e2 h1
 have hd:∃ v,(cs.drop 33).take 1=[v]:=by
  have:((cs.drop 33).take 1).length=1:=by rw [List.length_take,List.length_drop];omega
  exact List.length_eq_one_iff.1 this
 obtain ⟨dv,hdv⟩:=hd
 rw [hdv]at h2
 obtain ⟨l2,r2,c2⟩:=in_bys Tryz.underlying38 Tryz.underlying5 e5 h2
 obtain ⟨z3,q3,_,w3⟩:=DataW.trod_int Tryz.underlying3 h3
 obtain ⟨z4,q4,_,w4⟩:=DataW.trod_int Tryz.underlying3 h4
 have hd:∃ v,(cs.drop 36).take 1=[v]:=by
  have:((cs.drop 36).take 1).length=1:=by rw [List.length_take,List.length_drop];omega
  exact List.length_eq_one_iff.1 this
 obtain ⟨lv,hlv⟩:=hd
 rw [hlv]at h5
 obtain ⟨l6,r6,c6,i6⟩:=in_nums Tryz.underlying39 Tryz.underlying3 e1 h5
 refine ⟨⟨⟨z0,kl,l2,z3,z4,l6⟩,dv,lv⟩,?_,bounds_i64 w0,k2,r2,c2,bounds_i64 w3,bounds_i64 w4,r6,c6,i6⟩
 show (Value.int .i64 z0::bys kl)++dv::[.int .i64 z3,.int .i64 z4,lv]=cs
 have s1:cs=cs.take 1++((cs.drop 1).take 32++((cs.drop 33).take 1++((cs.drop 34).take 1++((cs.drop 35).take 1++(cs.drop 36).take 1)))):=by
  have a4:(cs.drop 36).take 1=cs.drop 36:=List.take_of_length_le (by rw [List.length_drop];omega)
  have a3:(cs.drop 35).take 1++cs.drop 36=cs.drop 35:=by
   rw [show cs.drop 36=(cs.drop 35).drop 1 by rw [List.drop_drop]];exact List.take_append_drop 1 _
  have a2:(cs.drop 34).take 1++cs.drop 35=cs.drop 34:=by
   rw [show cs.drop 35=(cs.drop 34).drop 1 by rw [List.drop_drop]];exact List.take_append_drop 1 _
  have a1:(cs.drop 33).take 1++cs.drop 34=cs.drop 33:=by
   rw [show cs.drop 34=(cs.drop 33).drop 1 by rw [List.drop_drop]];exact List.take_append_drop 1 _
  have a0:(cs.drop 1).take 32++cs.drop 33=cs.drop 1:=by
   rw [show cs.drop 33=(cs.drop 1).drop 32 by rw [List.drop_drop]];exact List.take_append_drop 32 _
  rw [a4,a3,a2,a1,a0]
  exact (List.take_append_drop 1 cs).symm
 rw [s1,q0,← k1,hdv,q3,q4,hlv];rfl
theorem in_qds {fuel:Nat}{v:Value}{x:DataW H×List MemPlace} (h:DataW.trod enc Tryz.prog W base spare held fuel 22 [v]=some x) :
  ∃ ds:List QD,rdsl 37 v (qdsL ds) W∧capOk v∧∀ d∈ds,d.At W:=by
 obtain ⟨elems,h1,h2,h3⟩:=open_sl Tryz.underlying22 (k:=37) kRz oQ h
 obtain ⟨ds,h4,h5⟩:=map_of (f:=qdL) (p:=fun d=>d.At W) elems fun cs hcs=>by
  obtain ⟨_,n,y,h6⟩:=h3 cs hcs
  exact open_qd h6
 refine ⟨ds,?_,h2,h5⟩
 unfold qdsL
 rw [List.flatMap_def,h4]
 exact h1
theorem QD.At.ro {d:QD} (h:d.At W):QDRo W [Sl.old W] d:=⟨h.key,rd_old h.rd,h.cap,rd_old h.rl,h.capl⟩
end
end Go.Proofs.YtjbhhbnopnmcnaaGreatDoor
namespace Go.Proofs.YtjbhhbnopnmcnaaGreatDoor.card
open Go.ChangeShapes Go.WideShapes Go.ChangeAt Go.RowKit
open Go Go.Sl Go.Med
theorem gHalf:Tryz.prog.globalNamed "hoard/crc.half" = some 0:=by kernel_rfl
theorem tHalf:((Tryz.prog.globals[0]?).map (·.type))=some 263:=by kernel_rfl
theorem door_met (os:Os) (args:Array Value):laidMetH Tryz.prog [("hoard/crc.half",Rows.laid_hoard_crc_half)] ((World.doorLaid Tryz.prog 400 os).forCall (fun _ _=>0) ⟨#[],args,[]⟩).memory:=
 laidMetH_of_parts3 (fuel:=8) (laidMet_of_run' 8 kRz kRz) kRz kRz
theorem of_laid {W:World} (h:laidMetH Tryz.prog [("hoard/crc.half",Rows.laid_hoard_crc_half)] W):0<W.heap.size∧Half W:=by
 rw [MakeChecks.laidMetH_plain _ _ _ kRz]at h
 obtain ⟨ps,⟨g0,t0,cs0,f0,p0,q0,hg0,ht0,hv0,hd0,hrest⟩,hrest2⟩:=h
 obtain rfl:=Option.some.inj (gHalf.symm.trans hg0)
 obtain rfl:=Option.some.inj (tHalf.symm.trans ht0)
 obtain ⟨xs,m1,rfl,hx1,hlen,hn3,hel⟩:=DataW.trod_array Tryz.underlying263 hd0
 have c3:Tryz.prog.cellsOf 193=1:=by kernel_rfl
 simp only [Prod.mk.injEq,Rows.laid_hoard_crc_half,DataW.agg.injEq]at hx1
 have hH:Half W:=by
  intro i hi
  have h0:=hel i hi
  have hxi:xs[i]?=some (xs[i]'oQ):=List.getElem?_eq_getElem oQ
  rw [hxi]at h0
  obtain ⟨k,e1,e2,_⟩:=DataW.trod_int Tryz.underlying193 h0
  rw [c3,Nat.mul_one]at e1
  have hc:cs0.toList[i]?=some (.int .u32 k):=by
   have:((cs0.toList.drop i).take 1)[0]?=some (.int .u32 k):=by rw [e1];rfl
   rw [List.getElem?_take,if_pos dCz,List.getElem?_drop]at this
   exact this
  have hL:=congrArg (fun l=>l[i]?) hx1.1
  rw [List.getElem?_map,hxi]at hL
  have hk:k=((Frm.half.getD i 0:Nat):Int):=by
   rw [e2]at hL
   rcases i with _|_|_|_|_|_|_|_|_|_|_|_|_|_|_|_|i
   all_goals first|omega|(simp at hL;rw [← hL];rfl)
  subst hk
  have:=World.var?_cell hg0 hv0 i
  rw [this,← Array.getElem?_toList]
  exact hc
 refine ⟨?_,hH⟩
 by_cases hz:0<W.heap.size
 ·exact hz
 ·have h0:=hH 0 dCz
  have e:W.heap[0]?=none:=Array.getElem?_eq_none oQ
  simp [World.cell?,e]at h0
end Go.Proofs.YtjbhhbnopnmcnaaGreatDoor.card
