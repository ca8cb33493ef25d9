/-
  'MendCleanCardSaid': whatever the input, the law MendClean returns true and the input reads as it did; the table of crc is tied to the program's text. No condition.
-/
import Derived.Test.YtadhomdmbcldkaaGreatDoorJ14
import Derived.Test.YtadhomdmbcldkaaGreatDoorRows
import Derived.Test.YtadhomdmbcldkaaGreatDoorCards
import Derived.Test.YtadhomdmbcldkaaGreatDoorTie
import Derived.ProofKit
import Derived.LaidMore
import Derived.OpenShut
import Derived.ShutString
import Derived.SevenTiedAt
set_option linter.unusedSimpArgs false
open Go.Proofs.Tryz
set_option maxRecDepth 100000
open Go.Proofs.Y
set_option linter.unusedVariables false
set_option maxHeartbeats 128000000
namespace Go.Proofs.YtadhomdmbcldkaaGreatDoor.cleanS
open Go.ChangeShapes Go.WideShapes Go.ChangeAt Go.RowKit
open Go.ChangeMaps (open_string shut_string)
open Go Go.Sl Go.ak Go.Proofs.Y.card
theorem walk {W:World}{v1:Value} (z0:Int) (w0:GV z0) (l1:List PC) (r1:aW 6 v1 (l1.flatMap uX) W) (c1:nN v1) (i1:∀ d∈l1,d.At W) (h:0<W.heap.size/\Half W) :
  Calls prog 3 #[.int .i64 z0,v1] W λe w'=>e=.returned (.bool true)/\Below W.heap.size W w':=by
 refine (aju (F:=[Sl.old W]) z0 l1 (LC r1) (λd hd=>(i1 d hd).ro) (λw hw i hi=>(hw.below.cell (p:=⟨0,i,none⟩) h.1).trans (h.2 i hi)) (Sat.start W)).mono ?_;rintro e w' ⟨v,rfl,rfl,hS⟩;exact ⟨rfl,hS.below⟩
theorem lifted (os:Os) (started:os.Started) (H:Type) (enc:TypeId×Value->H) :
  ReturnsInHanded {} Tryz.checked os 3 .any (λw args=>(Rows.mendCleanSpec.pre enc prog Tryz.f3 [] false w args/\laidMetH prog [("hoard/crc.half",Rows.laid_hoard_crc_half)] w)/\sizedMet enc prog Tryz.f3 (OpenSpec.ofChange Rows.mendCleanSpec) false w args)
   (Rows.mendCleanSpec.post enc prog Tryz.f3 false true false false):=by
 refine returnsInHanded_of_change_and (C:=Tryz.checked) (X:=λw _=>laidMetH prog [("hoard/crc.half",Rows.laid_hoard_crc_half)] w) (λ_ _ _ hh h=>h.of_heap hh) own started au func3
  (ChangeSpec.witness_shaped (enc:=enc) (C:=Tryz.checked) (os:=os) (X:=λw _=>laidMetH prog [("hoard/crc.half",Rows.laid_hoard_crc_half)] w) false (World.doorLaid prog 400 os) #[.int .i64 0,.slice none 0 0] 8 rfl (World.shaped_of_RefB au au) au au au (door_met os _)) ?_
 intro W base args ds gs before hval0 hW _ _ hL _;have hval:∀ (j:Nat) t v,Tryz.f3.params[j]?=some t->args[j]?=some v->Value.okWide prog W .any base t v:=hval0;have hW':=hW;obtain ⟨p,q,hA0,hV,rfl,hfz,hnd⟩:=hW;have hA:DataW.TrodAll enc prog W 0 (λ_=>true) true Tryz.f3.params.toList args.toList ds p:=hA0;rw [Tryz.params3]at hA hval;obtain ⟨v0,vs0,d0,ds0,p0,q0,hargs,rfl,rfl,h0,r0⟩:=trodAll_cons hA;obtain ⟨v1,vs1,d1,ds1,p1,q1,rfl,rfl,rfl,h1,r1⟩:=trodAll_cons r0;obtain ⟨rfl,rfl,rfl⟩:=trodAll_nil r1;obtain rfl:args=#[v0,v1]:=by cases args;simp_all
 obtain ⟨rfl,rfl⟩:=trodVars_none hV;obtain ⟨z0,rfl⟩:=okWide_int underlying3 (hval 0 3 v0 rfl rfl);obtain ⟨a1,len1,cap1,rfl⟩:=okWide_slice underlying22 (hval 1 22 v1 rfl rfl);have k0:=h0;have k1:=h1;have lt0:∀ x∈p0,x.block<W.heap.size:=by obtain ⟨m,hm⟩:=k0;exact DataW.trod_lt m _ _ _ hm
 have lt1:∀ x∈p1,x.block<W.heap.size:=by obtain ⟨m,hm⟩:=k1;exact DataW.trod_lt m _ _ _ hm
 have w0:GV z0:=by
  obtain ⟨fuel,hf⟩:=h0;obtain ⟨n,hn,_,hw⟩:=DataW.trod_int underlying3 hf;obtain rfl:z0=n:=by simpa [Value.cells] using hn
  exact bounds_i64 hw
 obtain ⟨l1,r1,c1,i1⟩:∃ ds:List PC,aW 6 (.slice a1 len1 cap1) (ds.flatMap uX) W/\nN (.slice a1 len1 cap1)/\∀ d∈ds,d.At W:=by
  obtain ⟨fuel,hf⟩:=h1;exact aix hf
 clear hA0 hval0;refine (walk z0 w0 l1 r1 c1 i1 (of_laid hL)).mono λe W' ⟨he,bel⟩=>?_;subst he;exact ⟨_,rfl,_,_,_,[],_,[],hW',trodAll_mk1 (shut_bool underlying4 _),(trodAll_cons_mk (Below.trod laidOut au (aoK au) k0 bel lt0) (trodAll_cons_mk (Below.trod laidOut au (aoK au) k1 bel lt1) trodAll_mk0)),rfl,bel.frame _,λh=>by cases h⟩
theorem afm {a b:Bool} (h:a=true) (k:b=true):(a && b)=true:=by rw [h,k];rfl
theorem jwf:Rows.mendCleanRow.wf (OpenSpec.ofChange Rows.mendCleanSpec)=true:=by kernel_rfl
theorem jin:(Rows.mendCleanRow.inPlace==Tryz.pinned.checked.prog.inPlace 3)=true:=by kernel_rfl
theorem jun:(Rows.mendCleanRow.unfollowed==Tryz.pinned.checked.prog.unfollowed 3)=true:=by kernel_rfl
theorem jre:(Rows.mendCleanRow.recurses==Tryz.pinned.checked.prog.recurses 3)=true:=by kernel_rfl
theorem jna:(Rows.mendCleanRow.named==Tryz.pinned.checked.prog.varsNamed 3)=true:=by kernel_rfl
theorem jpk:(Rows.mendCleanRow.plainKeys==Tryz.pinned.checked.prog.plainKeys)=true:=by kernel_rfl
theorem jhe:Tryz.pinned.checked.prog.stopsHeard=true:=by kernel_rfl
theorem jma:Tryz.pinned.checked.prog.mayEnter=true:=by kernel_rfl
theorem jli:(Rows.mendCleanRow.lifted==Tryz.pinned.checked.prog.liftsFinal)=true:=by kernel_rfl
theorem nmF:Tryz.pinned.checked.prog.funcNamed Rows.mendCleanRow.func=some 3:=by kernel_rfl
theorem goF:false=Rows.mendCleanRow.goesBy Tryz.pinned.checked.prog:=by kernel_rfl
theorem lkF:false=Tryz.pinned.checked.prog.looks []:=by kernel_rfl
theorem wrF:Func.isWrapper Tryz.pinned.checked.prog Tryz.f3 Rows.mendCleanRow.wrapper Rows.mendCleanRow.mainSum:=by unfold Func.isWrapper;first|(rw [adU (by decide +kernel)];kernel_rfl)|(rw [abL (by decide +kernel)];exact ⟨rfl,rfl⟩)
theorem jfa:joinedFacts Tryz.pinned.checked.prog 3 Tryz.f3 Rows.mendCleanSpec Rows.mendCleanRow=true:=by
 unfold joinedFacts
 repeat' (with_reducible apply afm)
 all_goals first|with_reducible exact jwf|with_reducible exact jin|with_reducible exact jun|with_reducible exact jre|with_reducible exact jna|with_reducible exact jpk|with_reducible exact jhe|with_reducible exact jma|with_reducible exact jli|kernel_rfl
theorem over:Rows.mendCleanRow.holds Tryz.pinned (OpenSpec.ofChange Rows.mendCleanSpec):=
 OpenClaim.holds_of_wide 3 Tryz.f3 rfl rfl rfl rfl rfl rfl rfl ⟨rfl,rfl,rfl,rfl,rfl⟩ rfl rfl rfl rfl rfl nmF func3 jfa
  (aoK au) wrF
  (λos started H enc _=>lifted os started H enc)
theorem proved:Rows.MendCleanCardSaid:=
 Claim7.holds_tied_plain_at .later [] [.data] true (true, "fe7cba617c9127ad897bbe58dda24cb39e9059dd762ecdd98420db157e525fbd") false
  over (λ_ h=>by cases h) au (λ_ h=>by cases h) mendClean_row_tie rfl ⟨rfl,rfl⟩ au rfl
  (λf fn hf hfn=>by
   obtain rfl:f=3:=aiJ (nmF.symm.trans hf) |>.symm;obtain rfl:fn=Tryz.f3:=(aiJ (func3.symm.trans hfn)).symm
   exact ⟨lkF,λj t ht=>by
    rw [Tryz.params3]at ht;have h3:t=3\/t=22:=by
     rcases j with _|_|j
     ·left;simpa using ht.symm
     ·right;simpa using ht.symm
     ·simp at ht
    rcases h3 with rfl|rfl
    ·exact (show prog.wantsStandIn 3=false by kernel_rfl)
    ·exact (show prog.wantsStandIn 22=false by kernel_rfl)⟩)
  goF
#print axioms proved
end Go.Proofs.YtadhomdmbcldkaaGreatDoor.cleanS
