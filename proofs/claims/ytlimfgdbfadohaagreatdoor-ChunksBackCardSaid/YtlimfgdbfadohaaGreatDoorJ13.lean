import Derived.Test.YtlimfgdbfadohaaGreatDoorJ12
import Derived.Test.YtlimfgdbfadohaaGreatDoorRows
import Derived.Test.YtlimfgdbfadohaaGreatDoorCards
import Derived.Test.YtlimfgdbfadohaaGreatDoorTie
import Derived.ProofKit
import Derived.LaidMore
import Derived.OpenShut
import Derived.ShutString
import Derived.SevenTiedAt
set_option linter.unusedVariables false
set_option maxHeartbeats 128000000
namespace Go.Proofs.YtlimfgdbfadohaaGreatDoor.card
open Go.ChangeShapes Go.WideShapes Go.ChangeAt Go.RowKit
open Go Go.Sl Go.aB
theorem ZJ:Tryz.prog.globalNamed "hoard/crc.half" = some 2:=by kernel_rfl
theorem afZ:((Tryz.prog.globals[2]?).map (·.type))=some 306:=by kernel_rfl
theorem ZK:Tryz.prog.globalNamed "hoard/sha.k" = some 0:=by kernel_rfl
theorem af0:((Tryz.prog.globals[0]?).map (·.type))=some 129:=by kernel_rfl
theorem door_met (os:Os) (args:Array Value):laidMetH Tryz.prog [("hoard/crc.half",Rows.laid_hoard_crc_half),("hoard/sha.k",Rows.laid_hoard_sha_k)] ((World.doorLaid Tryz.prog 400 os).forCall (fun _ _=>0) ⟨#[],args,[]⟩).memory:=
 laidMetH_of_parts3 (fuel:=8) (laidMet_of_run' 8 au au) au au
abbrev Lj (L:List Nat):DataW Unit:= .agg (L.map fun (x:Nat)=> .lit (.int .u32 ((x:Nat):Int)))
theorem abb:(Rows.laid_hoard_crc_half:DataW Unit)=Lj ak.half:=by kernel_rfl
theorem abd:(Rows.laid_hoard_sha_k:DataW Unit)=Lj aA.K:=by kernel_rfl
theorem Rj {W:World}{t n base:Nat}{L:List Nat}{cs0:Array Value}{enc:TypeId×Value→Unit}{fuel:Nat}{S:Nat→Bool}{b:Bool}{p0:List MemPlace} (hLn:L.length=n)
  (hu:Tryz.prog.underlying t=some (.array n 78)) (hd0:DataW.trod enc Tryz.prog W base S b fuel t cs0.toList=some (Lj L,p0)):∀ i,i<n→cs0[i]?=some (.int .u32 ((L.getD i 0:Nat):Int)):=by
 obtain ⟨xs,m1,rfl,hx1,hlen,hn3,hel⟩:=DataW.trod_array hu hd0
 have c3:Tryz.prog.cellsOf 78=1:=by kernel_rfl
 simp only [Prod.mk.injEq,DataW.agg.injEq]at hx1
 intro i hi
 have h0:=hel i hi
 have hxi:xs[i]?=some (xs[i]'oQ):=List.getElem?_eq_getElem oQ
 rw [hxi]at h0
 obtain ⟨k,e1,e2,_⟩:=DataW.trod_int Tryz.underlying78 h0
 rw [c3,Nat.mul_one]at e1
 have hc:cs0.toList[i]?=some (.int .u32 k):=by
  have:((cs0.toList.drop i).take 1)[0]?=some (.int .u32 k):=by rw [e1];rfl
  rw [List.getElem?_take,if_pos aJ,List.getElem?_drop]at this
  exact this
 have hL:=congrArg (fun l=>l[i]?) hx1.1
 have hLi:L[i]?=some (L.getD i 0):=by
  rw [List.getD_eq_getElem?_getD,List.getElem?_eq_getElem oQ];rfl
 simp only [List.getElem?_map,hxi,hLi,Option.map_some,e2,Option.some.injEq,DataW.lit.injEq,Lit.int.injEq]at hL
 rw [← Array.getElem?_toList,hc,hL.2]
theorem of_laid {W:World} (h:laidMetH Tryz.prog [("hoard/crc.half",Rows.laid_hoard_crc_half),("hoard/sha.k",Rows.laid_hoard_sha_k)] W):2<W.heap.size∧0<W.heap.size∧Half W∧kE W:=by
 rw [MakeChecks.laidMetH_plain _ _ _ au]at h
 obtain ⟨ps,⟨g0,t0,cs0,f0,p0,q0,hg0,ht0,hv0,hd0,⟨g1,t1,cs1,f1,p1,q1,hg1,ht1,hv1,hd1,hrest⟩,hps⟩,ahS⟩:=h
 obtain rfl:=Option.some.inj (ZJ.symm.trans hg0)
 obtain rfl:=Option.some.inj (afZ.symm.trans ht0)
 obtain rfl:=Option.some.inj (ZK.symm.trans hg1)
 obtain rfl:=Option.some.inj (af0.symm.trans ht1)
 rw [abb]at hd0
 rw [abd]at hd1
 have hH:Half W:=by
  intro i hi
  have:=World.var?_cell hg0 hv0 i
  rw [this]
  exact Rj aJ Tryz.underlying306 hd0 i hi
 have hK:kE W:=by
  intro i hi
  have:=World.var?_cell hg1 hv1 i
  rw [this]
  exact Rj aJ Tryz.underlying129 hd1 i hi
 refine ⟨?_,?_,hH,hK⟩
 ·by_cases hz:2<W.heap.size
  ·exact hz
  ·have h0:=hH 0 aJ
   have e:W.heap[2]?=none:=Array.getElem?_eq_none oQ
   simp [World.cell?,e]at h0
 ·by_cases hz:0<W.heap.size
  ·exact hz
  ·have h0:=hK 0 aJ
   have e:W.heap[0]?=none:=Array.getElem?_eq_none oQ
   simp [World.cell?,e]at h0
end Go.Proofs.YtlimfgdbfadohaaGreatDoor.card
