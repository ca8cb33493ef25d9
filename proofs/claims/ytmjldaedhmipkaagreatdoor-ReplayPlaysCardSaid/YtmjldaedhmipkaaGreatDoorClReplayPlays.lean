/-
  'ReplayPlaysCardSaid': whatever the input, the law ReplayPlays returns true and the input reads as it did; the table of crc is tied to the program's text. No condition.
-/
import Derived.Test.YtmjldaedhmipkaaGreatDoorJ13
import Derived.Test.YtmjldaedhmipkaaGreatDoorRows
import Derived.Test.YtmjldaedhmipkaaGreatDoorCards
import Derived.Test.YtmjldaedhmipkaaGreatDoorTie
import Derived.ProofKit
import Derived.LaidMore
import Derived.OpenShut
import Derived.ShutString
import Derived.SevenTiedAt
set_option linter.unusedVariables false
namespace Go.Proofs.YtmjldaedhmipkaaGreatDoor.playsS
open Go.ChangeShapes Go.WideShapes Go.ChangeAt Go.RowKit
open Go.ChangeMaps (open_string shut_string)
open Go Go.Sl Go.Med Go.Proofs.YtmjldaedhmipkaaGreatDoor.card
theorem walk {W:World}{v1:Value} (z0:Int) (w0:inI z0) (l1:List SD) (r1:rdsl 40 v1 (sdsL l1) W) (c1:capOk v1) (i1:∀ d∈l1,d.At W) (h:0<W.heap.size∧Half W) :
  Calls Tryz.prog 10 #[.int .i64 z0,v1] W fun e w'=>e = .returned (.bool true)∧Below W.heap.size W w':=by
 refine (replay_plays_c (F:=[Sl.old W]) z0 l1 (rd_old r1) (fun d hd=>(i1 d hd).ro) (fun d hd=>⟨(i1 d hd).n,(i1 d hd).ins⟩) (fun w hw i hi=>(hw.below.cell (p:=⟨0,i,none⟩) h.1).trans (h.2 i hi)) (Sat.start W)).mono ?_
 rintro e w' ⟨v,rfl,rfl,hS⟩
 exact ⟨rfl,hS.below⟩
set_option maxRecDepth 100000 in
theorem lifted (os:Os) (started:os.Started) (H:Type) (enc:TypeId×Value→H) :
  ReturnsInHanded {} Tryz.checked os 10 .any (fun w args=>(Rows.replayPlaysSpec.pre enc Tryz.prog Tryz.f10 [] false w args∧laidMetH Tryz.prog [("hoard/crc.half",Rows.laid_hoard_crc_half)] w)∧sizedMet enc Tryz.prog Tryz.f10 (OpenSpec.ofChange Rows.replayPlaysSpec) false w args)
   (Rows.replayPlaysSpec.post enc Tryz.prog Tryz.f10 false true false false):=by
 refine returnsInHanded_of_change_and (C:=Tryz.checked) (X:=fun w _=>laidMetH Tryz.prog [("hoard/crc.half",Rows.laid_hoard_crc_half)] w) (fun _ _ _ hh h=>h.of_heap hh) own started kQ Tryz.func10
  (ChangeSpec.witness_shaped (enc:=enc) (C:=Tryz.checked) (os:=os) (X:=fun w _=>laidMetH Tryz.prog [("hoard/crc.half",Rows.laid_hoard_crc_half)] w) false (World.doorLaid Tryz.prog 400 os) #[.int .i64 0,.slice none 0 0] 8 rfl (World.shaped_of_RefB kQ kQ) kQ kQ kQ (door_met os _)) ?_
 intro W base args ds gs before hval0 hW _ _ hL _
 have hval:∀ (j:Nat) t v,Tryz.f10.params[j]?=some t→args[j]?=some v→Value.okWide Tryz.prog W .any base t v:=hval0
 have hW':=hW
 obtain ⟨p,q,hA0,hV,rfl,hfz,hnd⟩:=hW
 have hA:DataW.TrodAll enc Tryz.prog W 0 (fun _=>true) true Tryz.f10.params.toList args.toList ds p:=hA0
 rw [Tryz.params10]at hA hval
 obtain ⟨v0,vs0,d0,ds0,p0,q0,hargs,rfl,rfl,h0,r0⟩:=trodAll_cons hA
 obtain ⟨v1,vs1,d1,ds1,p1,q1,rfl,rfl,rfl,h1,r1⟩:=trodAll_cons r0
 obtain ⟨rfl,rfl,rfl⟩:=trodAll_nil r1
 obtain rfl:args=#[v0,v1]:=by cases args;simp_all
 obtain ⟨rfl,rfl⟩:=trodVars_none hV
 obtain ⟨z0,rfl⟩:=okWide_int Tryz.underlying3 (hval 0 3 v0 rfl rfl)
 obtain ⟨a1,len1,cap1,rfl⟩:=okWide_slice Tryz.underlying22 (hval 1 22 v1 rfl rfl)
 have k0:=h0
 have k1:=h1
 have lt0:∀ x∈p0,x.block<W.heap.size:=by obtain ⟨m,hm⟩:=k0;exact DataW.trod_lt m _ _ _ hm
 have lt1:∀ x∈p1,x.block<W.heap.size:=by obtain ⟨m,hm⟩:=k1;exact DataW.trod_lt m _ _ _ hm
 have w0:inI z0:=by
  obtain ⟨fuel,hf⟩:=h0
  obtain ⟨n,hn,_,hw⟩:=DataW.trod_int Tryz.underlying3 hf
  obtain rfl:z0=n:=by simpa [Value.cells] using hn
  exact bounds_i64 hw
 obtain ⟨l1,r1,c1,i1⟩:∃ ds:List SD,rdsl 40 (.slice a1 len1 cap1) (sdsL ds) W∧capOk (.slice a1 len1 cap1)∧∀ d∈ds,d.At W:=by
  obtain ⟨fuel,hf⟩:=h1
  exact in_sds hf
 clear hA0 hval0
 refine (walk z0 w0 l1 r1 c1 i1 (of_laid hL)).mono fun e W' ⟨he,bel⟩=>?_
 subst he
 exact ⟨_,rfl,_,_,_,[],_,[],hW',trodAll_mk1 (shut_bool Tryz.underlying4 _),(trodAll_cons_mk (Below.trod laidOut kQ (of_decide_eq_true kQ) k0 bel lt0) (trodAll_cons_mk (Below.trod laidOut kQ (of_decide_eq_true kQ) k1 bel lt1) trodAll_mk0)),rfl,bel.frame _,fun h=>by cases h⟩
theorem over:Rows.replayPlaysRow.holds Tryz.pinned (OpenSpec.ofChange Rows.replayPlaysSpec):=
 OpenClaim.holds_of_wide 10 Tryz.f10 rfl rfl rfl rfl rfl rfl rfl ⟨rfl,rfl,rfl,rfl,rfl⟩ rfl rfl rfl rfl rfl kQ Tryz.func10 kQ
  (of_decide_eq_true kQ) (by unfold Func.isWrapper;first|(rw [if_pos (by decide +kernel)];kernel_rfl)|(rw [if_neg (by decide +kernel)];exact ⟨rfl,rfl⟩))
  (fun os started H enc _=>lifted os started H enc)
theorem proved:Rows.ReplayPlaysCardSaid:=
 Claim7.holds_tied_plain_at .later [] [.data] true (true, "277959205d57ee72caa775a896fbc353136107c959f05ab74ee12943ab8ba270") false
  over (fun _ h=>by cases h) kQ (fun _ h=>by cases h) replayPlays_row_tie rfl ⟨rfl,rfl⟩ kQ rfl
  (fun f fn hf hfn=>by
   obtain rfl:f=10:=Option.some.inj ((show Tryz.prog.funcNamed "hoard/hoardlaw15.ReplayPlays" = some 10 by kernel_rfl).symm.trans hf) |>.symm
   obtain rfl:fn=Tryz.f10:=(Option.some.inj (Tryz.func10.symm.trans hfn)).symm
   exact ⟨by kernel_rfl,fun j t ht=>by
    rw [Tryz.params10]at ht
    have h3:t=3∨t=22:=by
     rcases j with _|_|j
     ·left;simpa using ht.symm
     ·right;simpa using ht.symm
     ·simp at ht
    rcases h3 with rfl|rfl
    ·exact (show Tryz.prog.wantsStandIn 3=false by kernel_rfl)
    ·exact (show Tryz.prog.wantsStandIn 22=false by kernel_rfl)⟩)
  kQ
#print axioms proved
end Go.Proofs.YtmjldaedhmipkaaGreatDoor.playsS
