/-
  'CompactRefusesCardSaid': whatever the input, the law CompactRefuses returns true and the input reads as it did; the table of crc is tied to the program's text. No condition.
-/
import Derived.Test.YtfdchfnmpabogaaGreatDoorJ11
import Derived.Test.YtfdchfnmpabogaaGreatDoorRows
import Derived.Test.YtfdchfnmpabogaaGreatDoorCards
import Derived.Test.YtfdchfnmpabogaaGreatDoorTie
import Derived.ProofKit
import Derived.LaidMore
import Derived.OpenShut
import Derived.ShutString
import Derived.SevenTiedAt
set_option linter.unusedVariables false
set_option maxHeartbeats 128000000
namespace Go.Proofs.YtfdchfnmpabogaaGreatDoor.refusesS
open Go.ChangeShapes Go.WideShapes Go.ChangeAt Go.RowKit
open Go.ChangeMaps (open_string shut_string)
open Go Go.Sl Go.Med Go.Proofs.YtfdchfnmpabogaaGreatDoor.card
theorem walk {W:World} (z0:Int) (w0:inI z0) (d1:QD) (cs1:Array Value) (e1:qdL d1=(Value.agg cs1).cells.toList) (i1:d1.At W) (h:0<W.heap.size∧Half W) :
  Calls Tryz.prog 3 #[.int .i64 z0,.agg cs1] W fun e w'=>e = .returned (.bool true)∧Below W.heap.size W w':=by
 have hcs1:cs1=qdA d1:=by
  have:cs1.toList=qdL d1:=e1.symm
  exact putsAt_eq this
 subst hcs1
 refine (compact_refuses_c (F:=[Sl.old W]) z0 d1 i1.ro (fun w hw i hi=>(hw.below.cell (p:=⟨0,i,none⟩) h.1).trans (h.2 i hi)) (Sat.start W)).mono ?_
 rintro e w' ⟨v,rfl,rfl,hS⟩
 exact ⟨rfl,hS.below⟩
set_option maxRecDepth 100000 in
theorem lifted (os:Os) (started:os.Started) (H:Type) (enc:TypeId×Value→H) :
  ReturnsInHanded {} Tryz.checked os 3 .any (fun w args=>(Rows.compactRefusesSpec.pre enc Tryz.prog Tryz.f3 [] false w args∧laidMetH Tryz.prog [("hoard/crc.half",Rows.laid_hoard_crc_half)] w)∧sizedMet enc Tryz.prog Tryz.f3 (OpenSpec.ofChange Rows.compactRefusesSpec) false w args)
   (Rows.compactRefusesSpec.post enc Tryz.prog Tryz.f3 false true false false):=by
 refine returnsInHanded_of_change_and (C:=Tryz.checked) (X:=fun w _=>laidMetH Tryz.prog [("hoard/crc.half",Rows.laid_hoard_crc_half)] w) (fun _ _ _ hh h=>h.of_heap hh) own started kRz Tryz.func3
  (ChangeSpec.witness_shaped (enc:=enc) (C:=Tryz.checked) (os:=os) (X:=fun w _=>laidMetH Tryz.prog [("hoard/crc.half",Rows.laid_hoard_crc_half)] w) false (World.doorLaid Tryz.prog 400 os) #[.int .i64 0,.agg (qdA zeroQ)] 8 rfl (World.shaped_of_RefB kRz kRz) kRz kRz kRz (door_met os _)) ?_
 intro W base args ds gs before hval0 hW _ _ hL _
 have hval:∀ (j:Nat) t v,Tryz.f3.params[j]?=some t→args[j]?=some v→Value.okWide Tryz.prog W .any base t v:=hval0
 have hW':=hW
 obtain ⟨p,q,hA0,hV,rfl,hfz,hnd⟩:=hW
 have hA:DataW.TrodAll enc Tryz.prog W 0 (fun _=>true) true Tryz.f3.params.toList args.toList ds p:=hA0
 rw [Tryz.params3]at hA hval
 obtain ⟨v0,vs0,d0,ds0,p0,q0,hargs,rfl,rfl,h0,r0⟩:=trodAll_cons hA
 obtain ⟨v1,vs1,d1,ds1,p1,q1,rfl,rfl,rfl,h1,r1⟩:=trodAll_cons r0
 obtain ⟨rfl,rfl,rfl⟩:=trodAll_nil r1
 obtain rfl:args=#[v0,v1]:=by cases args;simp_all
 obtain ⟨rfl,rfl⟩:=trodVars_none hV
 obtain ⟨z0,rfl⟩:=okWide_int Tryz.underlying3 (hval 0 3 v0 rfl rfl)
 obtain ⟨cs1,rfl,hcs1⟩:=okWide_struct Tryz.underlying27 (hval 1 27 v1 rfl rfl)
 have k0:=h0
 have k1:=h1
 have lt0:∀ x∈p0,x.block<W.heap.size:=by obtain ⟨m,hm⟩:=k0;exact DataW.trod_lt m _ _ _ hm
 have lt1:∀ x∈p1,x.block<W.heap.size:=by obtain ⟨m,hm⟩:=k1;exact DataW.trod_lt m _ _ _ hm
 have w0:inI z0:=by
  obtain ⟨fuel,hf⟩:=h0
  obtain ⟨n,hn,_,hw⟩:=DataW.trod_int Tryz.underlying3 hf
  obtain rfl:z0=n:=by simpa [Value.cells] using hn
  exact bounds_i64 hw
 obtain ⟨d1,e1,i1⟩:∃ d:QD,qdL d=(Value.agg cs1).cells.toList∧d.At W:=by
  obtain ⟨fuel,hf⟩:=h1
  exact open_qd hf
 clear hA0 hval0
 refine (walk z0 w0 d1 cs1 e1 i1 (of_laid hL)).mono fun e W' ⟨he,bel⟩=>?_
 subst he
 exact ⟨_,rfl,_,_,_,[],_,[],hW',trodAll_mk1 (shut_bool Tryz.underlying4 _),(trodAll_cons_mk (Below.trod laidOut kRz (of_decide_eq_true kRz) k0 bel lt0) (trodAll_cons_mk (Below.trod laidOut kRz (of_decide_eq_true kRz) k1 bel lt1) trodAll_mk0)),rfl,bel.frame _,fun h=>by cases h⟩
theorem and2 {a b:Bool} (h:a=true) (k:b=true):(a && b)=true:=by rw [h,k];rfl
theorem jwf:Rows.compactRefusesRow.wf (OpenSpec.ofChange Rows.compactRefusesSpec)=true:=by kernel_rfl
theorem jin:(Rows.compactRefusesRow.inPlace==Tryz.pinned.checked.prog.inPlace 3)=true:=by kernel_rfl
theorem jun:(Rows.compactRefusesRow.unfollowed==Tryz.pinned.checked.prog.unfollowed 3)=true:=by kernel_rfl
theorem jre:(Rows.compactRefusesRow.recurses==Tryz.pinned.checked.prog.recurses 3)=true:=by kernel_rfl
theorem jna:(Rows.compactRefusesRow.named==Tryz.pinned.checked.prog.varsNamed 3)=true:=by kernel_rfl
theorem jpk:(Rows.compactRefusesRow.plainKeys==Tryz.pinned.checked.prog.plainKeys)=true:=by kernel_rfl
theorem jhe:Tryz.pinned.checked.prog.stopsHeard=true:=by kernel_rfl
theorem jma:Tryz.pinned.checked.prog.mayEnter=true:=by kernel_rfl
theorem jli:(Rows.compactRefusesRow.lifted==Tryz.pinned.checked.prog.liftsFinal)=true:=by kernel_rfl
theorem nmF:Tryz.pinned.checked.prog.funcNamed Rows.compactRefusesRow.func=some 3:=by kernel_rfl
theorem goF:false=Rows.compactRefusesRow.goesBy Tryz.pinned.checked.prog:=by kernel_rfl
theorem lkF:false=Tryz.pinned.checked.prog.looks []:=by kernel_rfl
theorem wrF:Func.isWrapper Tryz.pinned.checked.prog Tryz.f3 Rows.compactRefusesRow.wrapper Rows.compactRefusesRow.mainSum:=by unfold Func.isWrapper;first|(rw [if_pos (by decide +kernel)];kernel_rfl)|(rw [if_neg (by decide +kernel)];exact ⟨rfl,rfl⟩)
theorem jfa:joinedFacts Tryz.pinned.checked.prog 3 Tryz.f3 Rows.compactRefusesSpec Rows.compactRefusesRow=true:=by
 unfold joinedFacts
 repeat' (with_reducible apply and2)
 all_goals first|with_reducible exact jwf|with_reducible exact jin|with_reducible exact jun|with_reducible exact jre|with_reducible exact jna|with_reducible exact jpk|with_reducible exact jhe|with_reducible exact jma|with_reducible exact jli|kernel_rfl
theorem over:Rows.compactRefusesRow.holds Tryz.pinned (OpenSpec.ofChange Rows.compactRefusesSpec):=
 OpenClaim.holds_of_wide 3 Tryz.f3 rfl rfl rfl rfl rfl rfl rfl ⟨rfl,rfl,rfl,rfl,rfl⟩ rfl rfl rfl rfl rfl nmF Tryz.func3 jfa
  (of_decide_eq_true kRz) wrF
  (fun os started H enc _=>lifted os started H enc)
theorem proved:Rows.CompactRefusesCardSaid:=
 Claim7.holds_tied_plain_at .later [] [.data] true (true, "631a9ae3283b88499954790c68d5ada0fd56978d4851c5ca6b9f28d48f5a1d10") false
  over (fun _ h=>by cases h) kRz (fun _ h=>by cases h) compactRefuses_row_tie rfl ⟨rfl,rfl⟩ kRz rfl
  (fun f fn hf hfn=>by
   obtain rfl:f=3:=Option.some.inj (nmF.symm.trans hf) |>.symm
   obtain rfl:fn=Tryz.f3:=(Option.some.inj (Tryz.func3.symm.trans hfn)).symm
   exact ⟨lkF,fun j t ht=>by
    rw [Tryz.params3]at ht
    have h3:t=3∨t=27:=by
     rcases j with _|_|j
     ·left;simpa using ht.symm
     ·right;simpa using ht.symm
     ·simp at ht
    rcases h3 with rfl|rfl
    ·exact (show Tryz.prog.wantsStandIn 3=false by kernel_rfl)
    ·exact (show Tryz.prog.wantsStandIn 27=false by kernel_rfl)⟩)
  goF
#print axioms proved
end Go.Proofs.YtfdchfnmpabogaaGreatDoor.refusesS
