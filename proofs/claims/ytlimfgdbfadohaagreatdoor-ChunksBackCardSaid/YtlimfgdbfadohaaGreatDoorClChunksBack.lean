/-
  'ChunksBackCardSaid': whatever the input, the law ChunksBack returns true and the input reads as it did; the tables of crc and sha are tied to the program's text. No condition.
-/
import Derived.Test.YtlimfgdbfadohaaGreatDoorJ13
import Derived.Test.YtlimfgdbfadohaaGreatDoorRows
import Derived.Test.YtlimfgdbfadohaaGreatDoorCards
import Derived.Test.YtlimfgdbfadohaaGreatDoorTie
import Derived.ProofKit
import Derived.LaidMore
import Derived.OpenShut
import Derived.ShutString
import Derived.SevenTiedAt
set_option linter.unusedVariables false
set_option maxHeartbeats 128000000
namespace Go.Proofs.YtlimfgdbfadohaaGreatDoor.backS
open Go.ChangeShapes Go.WideShapes Go.ChangeAt Go.RowKit
open Go.ChangeMaps (open_string shut_string)
open Go Go.Sl Go.aB Go.Proofs.YtlimfgdbfadohaaGreatDoor.card
theorem walk {W:World}{v1:Value} (z0:Int) (w0:pR z0) (l1:List BD) (r1:bK 5 v1 (jC l1) W) (c1:kK v1) (i1:∀ d∈l1,d.At W) (h:2<W.heap.size∧0<W.heap.size∧Half W∧kE W) :
  Calls Tryz.prog 4 #[.int .i64 z0,v1] W fun e w'=>e = .returned (.bool true)∧Below W.heap.size W w':=by
 refine (Yw (F:=[Sl.old W]) z0 l1 (Tq r1) (fun d hd=>(i1 d hd).ro) (fun w hw i hi=>(hw.below.cell (p:=⟨2,i,none⟩) h.1).trans (h.2.2.1 i hi)) (fun w hw i hi=>(hw.below.cell (p:=⟨0,i,none⟩) h.2.1).trans (h.2.2.2 i hi)) (Sat.start W)).mono ?_
 rintro e w' ⟨v,rfl,rfl,hS⟩
 exact ⟨rfl,hS.below⟩
set_option maxRecDepth 100000 in
theorem lifted (os:Os) (started:os.Started) (H:Type) (enc:TypeId×Value→H) :
  ReturnsInHanded {} Tryz.checked os 4 .any (fun w args=>(Rows.chunksBackSpec.pre enc Tryz.prog Tryz.f4 [] false w args∧laidMetH Tryz.prog [("hoard/crc.half",Rows.laid_hoard_crc_half),("hoard/sha.k",Rows.laid_hoard_sha_k)] w)∧sizedMet enc Tryz.prog Tryz.f4 (OpenSpec.ofChange Rows.chunksBackSpec) false w args)
   (Rows.chunksBackSpec.post enc Tryz.prog Tryz.f4 false true false false):=by
 refine returnsInHanded_of_change_and (C:=Tryz.checked) (X:=fun w _=>laidMetH Tryz.prog [("hoard/crc.half",Rows.laid_hoard_crc_half),("hoard/sha.k",Rows.laid_hoard_sha_k)] w) (fun _ _ _ hh h=>h.of_heap hh) own started au Tryz.func4
  (ChangeSpec.witness_shaped (enc:=enc) (C:=Tryz.checked) (os:=os) (X:=fun w _=>laidMetH Tryz.prog [("hoard/crc.half",Rows.laid_hoard_crc_half),("hoard/sha.k",Rows.laid_hoard_sha_k)] w) false (World.doorLaid Tryz.prog 400 os) #[.int .i64 0,.slice none 0 0] 8 rfl (World.shaped_of_RefB au au) au au au (door_met os _)) ?_
 intro W base args ds gs before hval0 hW _ _ hL _
 have hval:∀ (j:Nat) t v,Tryz.f4.params[j]?=some t→args[j]?=some v→Value.okWide Tryz.prog W .any base t v:=hval0
 have hW':=hW
 obtain ⟨p,q,hA0,hV,rfl,hfz,hnd⟩:=hW
 have hA:DataW.TrodAll enc Tryz.prog W 0 (fun _=>true) true Tryz.f4.params.toList args.toList ds p:=hA0
 rw [Tryz.params4]at hA hval
 obtain ⟨v0,vs0,d0,ds0,p0,q0,hargs,rfl,rfl,h0,r0⟩:=trodAll_cons hA
 obtain ⟨v1,vs1,d1,ds1,p1,q1,rfl,rfl,rfl,h1,r1⟩:=trodAll_cons r0
 obtain ⟨rfl,rfl,rfl⟩:=trodAll_nil r1
 obtain rfl:args=#[v0,v1]:=by cases args;simp_all
 obtain ⟨rfl,rfl⟩:=trodVars_none hV
 obtain ⟨z0,rfl⟩:=okWide_int Tryz.underlying3 (hval 0 3 v0 rfl rfl)
 obtain ⟨a1,len1,cap1,rfl⟩:=okWide_slice Tryz.underlying42 (hval 1 42 v1 rfl rfl)
 have k0:=h0
 have k1:=h1
 have lt0:∀ x∈p0,x.block<W.heap.size:=by obtain ⟨m,hm⟩:=k0;exact DataW.trod_lt m _ _ _ hm
 have lt1:∀ x∈p1,x.block<W.heap.size:=by obtain ⟨m,hm⟩:=k1;exact DataW.trod_lt m _ _ _ hm
 have w0:pR z0:=by
  obtain ⟨fuel,hf⟩:=h0
  obtain ⟨n,hn,_,hw⟩:=DataW.trod_int Tryz.underlying3 hf
  obtain rfl:z0=n:=by simpa [Value.cells] using hn
  exact bounds_i64 hw
 obtain ⟨l1,r1,c1,i1⟩:∃ ds:List BD,bK 5 (.slice a1 len1 cap1) (jC ds) W∧kK (.slice a1 len1 cap1)∧∀ d∈ds,d.At W:=by
  obtain ⟨fuel,hf⟩:=h1
  exact aaM hf
 clear hA0 hval0
 refine (walk z0 w0 l1 r1 c1 i1 (of_laid hL)).mono fun e W' ⟨he,bel⟩=>?_
 subst he
 exact ⟨_,rfl,_,_,_,[],_,[],hW',trodAll_mk1 (shut_bool Tryz.underlying4 _),(trodAll_cons_mk (Below.trod laidOut au (of_decide_eq_true au) k0 bel lt0) (trodAll_cons_mk (Below.trod laidOut au (of_decide_eq_true au) k1 bel lt1) trodAll_mk0)),rfl,bel.frame _,fun h=>by cases h⟩
theorem XP {a b:Bool} (h:a=true) (k:b=true):(a && b)=true:=by rw [h,k];rfl
theorem jwf:Rows.chunksBackRow.wf (OpenSpec.ofChange Rows.chunksBackSpec)=true:=by kernel_rfl
theorem jin:(Rows.chunksBackRow.inPlace==Tryz.pinned.checked.prog.inPlace 4)=true:=by kernel_rfl
theorem jun:(Rows.chunksBackRow.unfollowed==Tryz.pinned.checked.prog.unfollowed 4)=true:=by kernel_rfl
theorem jre:(Rows.chunksBackRow.recurses==Tryz.pinned.checked.prog.recurses 4)=true:=by kernel_rfl
theorem jna:(Rows.chunksBackRow.named==Tryz.pinned.checked.prog.varsNamed 4)=true:=by kernel_rfl
theorem jpk:(Rows.chunksBackRow.plainKeys==Tryz.pinned.checked.prog.plainKeys)=true:=by kernel_rfl
theorem jhe:Tryz.pinned.checked.prog.stopsHeard=true:=by kernel_rfl
theorem jma:Tryz.pinned.checked.prog.mayEnter=true:=by kernel_rfl
theorem jli:(Rows.chunksBackRow.lifted==Tryz.pinned.checked.prog.liftsFinal)=true:=by kernel_rfl
theorem Sv:Tryz.pinned.checked.prog.funcNamed Rows.chunksBackRow.func=some 4:=by kernel_rfl
theorem ZR:false=Rows.chunksBackRow.goesBy Tryz.pinned.checked.prog:=by kernel_rfl
theorem lkF:false=Tryz.pinned.checked.prog.looks []:=by kernel_rfl
theorem wrF:Func.isWrapper Tryz.pinned.checked.prog Tryz.f4 Rows.chunksBackRow.wrapper Rows.chunksBackRow.mainSum:=by unfold Func.isWrapper;first|(rw [if_pos (by decide +kernel)];kernel_rfl)|(rw [if_neg (by decide +kernel)];exact ⟨rfl,rfl⟩)
theorem jfa:joinedFacts Tryz.pinned.checked.prog 4 Tryz.f4 Rows.chunksBackSpec Rows.chunksBackRow=true:=by
 unfold joinedFacts
 repeat' (with_reducible apply XP)
 all_goals first|with_reducible exact jwf|with_reducible exact jin|with_reducible exact jun|with_reducible exact jre|with_reducible exact jna|with_reducible exact jpk|with_reducible exact jhe|with_reducible exact jma|with_reducible exact jli|kernel_rfl
theorem over:Rows.chunksBackRow.holds Tryz.pinned (OpenSpec.ofChange Rows.chunksBackSpec):=
 OpenClaim.holds_of_wide 4 Tryz.f4 rfl rfl rfl rfl rfl rfl rfl ⟨rfl,rfl,rfl,rfl,rfl⟩ rfl rfl rfl rfl rfl Sv Tryz.func4 jfa
  (of_decide_eq_true au) wrF
  (fun os started H enc _=>lifted os started H enc)
theorem proved:Rows.ChunksBackCardSaid:=
 Claim7.holds_tied_plain_at .later [] [.data,.data] true (true, "f0316399baf0820d352837b5138eb629f71a8d9ee881922a2a26df1a2e525fbe") false
  over (fun _ h=>by cases h) au (fun _ h=>by cases h) chunksBack_row_tie rfl ⟨rfl,rfl⟩ au rfl
  (fun f fn hf hfn=>by
   obtain rfl:f=4:=Option.some.inj (Sv.symm.trans hf) |>.symm
   obtain rfl:fn=Tryz.f4:=(Option.some.inj (Tryz.func4.symm.trans hfn)).symm
   exact ⟨lkF,fun j t ht=>by
    rw [Tryz.params4]at ht
    have h3:t=3∨t=42:=by
     rcases j with _|_|j
     ·left;simpa using ht.symm
     ·right;simpa using ht.symm
     ·simp at ht
    rcases h3 with rfl|rfl
    ·exact (show Tryz.prog.wantsStandIn 3=false by kernel_rfl)
    ·exact (show Tryz.prog.wantsStandIn 42=false by kernel_rfl)⟩)
  ZR
#print axioms proved
end Go.Proofs.YtlimfgdbfadohaaGreatDoor.backS
