/-
  'MendKeepsCardSaid': whatever the input, the law MendKeeps returns true and the input reads as it did; the table of crc is tied to the program's text. No condition.
-/
import Derived.Test.YtadhomdmbcldkaaGreatDoorJ13
import Derived.Test.YtadhomdmbcldkaaGreatDoorRows
import Derived.Test.YtadhomdmbcldkaaGreatDoorCards
import Derived.Test.YtadhomdmbcldkaaGreatDoorTie
import Derived.ProofKit
import Derived.LaidMore
import Derived.OpenShut
import Derived.ShutString
import Derived.SevenTiedAt
set_option linter.unusedSimpArgs false
open Go.Proofs.Tryz
set_option maxRecDepth 100000
open Go.Proofs.Y
set_option linter.unusedVariables false
set_option maxHeartbeats 128000000
namespace Go.Proofs.YtadhomdmbcldkaaGreatDoor.keepsS
open Go.ChangeShapes Go.WideShapes Go.ChangeAt Go.RowKit
open Go.ChangeMaps (open_string shut_string)
open Go Go.Sl Go.aG Go.Proofs.Y.card
theorem auV {W:World}{v1:Value} (z0:Int) (w0:rZ z0) (l1:List QD) (r1:bK 37 v1 (qw l1) W) (c1:lS v1) (i1:∀ d∈l1,d.At W) (z2:Int) (w2:rZ z2) (z3:Int) (w3:rZ z3) (z4:Int) (w4:0<=z4/\z4<=255) (h:0<W.heap.size/\iO W) :
  Calls prog 5 #[.int .i64 z0,v1,.int .i64 z2,.int .i64 z3,.int .u8 z4] W λe w'=>e=.returned (.bool true)/\Below W.heap.size W w':=by
 obtain ⟨y,rfl⟩:∃ y:UInt8,z4=(y.toNat:Int):=⟨UInt8.ofNat z4.toNat,by rw [ao4];omega⟩;refine (ao8 (F:=[Sl.kP W]) z0 z2 z3 y l1 (VO r1) (λd hd=>(i1 d hd).ro) (λw hw i hi=>(hw.below.cell (p:=⟨0,i,none⟩) h.1).trans (h.2 i hi)) (au.start W)).mono ?_;rintro e w' ⟨v,rfl,rfl,hS⟩;exact ⟨rfl,hS.below⟩
theorem lifted (os:Os) (started:os.Started) (H:Type) (enc:TypeId×Value->H) :
  ReturnsInHanded {} Tryz.checked os 5 .any (λw args=>(Rows.mendKeepsSpec.pre enc prog Tryz.f5 [] false w args/\laidMetH prog [("hoard/crc.half",Rows.laid_hoard_crc_half)] w)/\sizedMet enc prog Tryz.f5 (OpenSpec.ofChange Rows.mendKeepsSpec) false w args)
   (Rows.mendKeepsSpec.post enc prog Tryz.f5 false true false false):=by
 refine returnsInHanded_of_change_and (C:=Tryz.checked) (X:=λw _=>laidMetH prog [("hoard/crc.half",Rows.laid_hoard_crc_half)] w) (λ_ _ _ hh h=>h.of_heap hh) own started aC func5
  (ChangeSpec.witness_shaped (enc:=enc) (C:=Tryz.checked) (os:=os) (X:=λw _=>laidMetH prog [("hoard/crc.half",Rows.laid_hoard_crc_half)] w) false (World.doorLaid prog 400 os) #[.int .i64 0,.slice none 0 0,.int .i64 0,.int .i64 0,.int .u8 0] 8 rfl (World.shaped_of_RefB aC aC) aC aC aC (alX os _)) ?_
 intro W base args ds gs before hval0 hW _ _ hL _;have hval:∀ (j:Nat) t v,Tryz.f5.params[j]?=some t->args[j]?=some v->Value.okWide prog W .any base t v:=hval0;have hW':=hW;obtain ⟨p,q,hA0,hV,rfl,hfz,hnd⟩:=hW;have hA:DataW.TrodAll enc prog W 0 (λ_=>true) true Tryz.f5.params.toList args.toList ds p:=hA0;rw [Tryz.params5]at hA hval;obtain ⟨v0,vs0,d0,ds0,p0,q0,hargs,rfl,rfl,h0,r0⟩:=trodAll_cons hA;obtain ⟨v1,vs1,d1,ds1,p1,q1,rfl,rfl,rfl,h1,r1⟩:=trodAll_cons r0;obtain ⟨v2,vs2,d2,ds2,p2,q2,rfl,rfl,rfl,h2,r2⟩:=trodAll_cons r1;obtain ⟨v3,vs3,d3,ds3,p3,q3,rfl,rfl,rfl,h3,r3⟩:=trodAll_cons r2;obtain ⟨v4,vs4,d4,ds4,p4,q4,rfl,rfl,rfl,h4,r4⟩:=trodAll_cons r3;obtain ⟨rfl,rfl,rfl⟩:=trodAll_nil r4;obtain rfl:args=#[v0,v1,v2,v3,v4]:=by cases args;simp_all
 obtain ⟨rfl,rfl⟩:=trodVars_none hV;obtain ⟨z0,rfl⟩:=okWide_int underlying3 (hval 0 3 v0 rfl rfl);obtain ⟨a1,len1,cap1,rfl⟩:=okWide_slice underlying52 (hval 1 52 v1 rfl rfl);obtain ⟨z2,rfl⟩:=okWide_int underlying3 (hval 2 3 v2 rfl rfl);obtain ⟨z3,rfl⟩:=okWide_int underlying3 (hval 3 3 v3 rfl rfl);obtain ⟨z4,rfl⟩:=okWide_int underlying5 (hval 4 5 v4 rfl rfl);have k0:=h0;have k1:=h1;have k2:=h2;have k3:=h3;have k4:=h4;have lt0:∀ x∈p0,x.block<W.heap.size:=by obtain ⟨m,hm⟩:=k0;exact DataW.trod_lt m _ _ _ hm
 have lt1:∀ x∈p1,x.block<W.heap.size:=by obtain ⟨m,hm⟩:=k1;exact DataW.trod_lt m _ _ _ hm
 have lt2:∀ x∈p2,x.block<W.heap.size:=by obtain ⟨m,hm⟩:=k2;exact DataW.trod_lt m _ _ _ hm
 have lt3:∀ x∈p3,x.block<W.heap.size:=by obtain ⟨m,hm⟩:=k3;exact DataW.trod_lt m _ _ _ hm
 have lt4:∀ x∈p4,x.block<W.heap.size:=by obtain ⟨m,hm⟩:=k4;exact DataW.trod_lt m _ _ _ hm
 have w0:rZ z0:=by
  obtain ⟨fuel,hf⟩:=h0;obtain ⟨n,hn,_,hw⟩:=avT underlying3 hf;obtain rfl:z0=n:=by simpa [Value.cells] using hn
  exact bounds_i64 hw
 obtain ⟨l1,r1,c1,i1⟩:∃ ds:List QD,bK 37 (.slice a1 len1 cap1) (qw ds) W/\lS (.slice a1 len1 cap1)/\∀ d∈ds,d.At W:=by
  obtain ⟨fuel,hf⟩:=h1;exact an0 hf
 have w2:rZ z2:=by
  obtain ⟨fuel,hf⟩:=h2;obtain ⟨n,hn,_,hw⟩:=avT underlying3 hf;obtain rfl:z2=n:=by simpa [Value.cells] using hn
  exact bounds_i64 hw
 have w3:rZ z3:=by
  obtain ⟨fuel,hf⟩:=h3;obtain ⟨n,hn,_,hw⟩:=avT underlying3 hf;obtain rfl:z3=n:=by simpa [Value.cells] using hn
  exact bounds_i64 hw
 have w4:0<=z4/\z4<=255:=by
  obtain ⟨fuel,hf⟩:=h4;obtain ⟨n,hn,_,hw⟩:=avT underlying5 hf;obtain rfl:z4=n:=by simpa [Value.cells] using hn
  exact bounds_u8 hw
 clear hA0 hval0;refine (auV z0 w0 l1 r1 c1 i1 z2 w2 z3 w3 z4 w4 (apY hL)).mono λe W' ⟨he,bel⟩=>?_;subst he;exact ⟨_,rfl,_,_,_,[],_,[],hW',trodAll_mk1 (shut_bool underlying4 _),(trodAll_cons_mk (Below.trod JH aC (ak5 aC) k0 bel lt0) (trodAll_cons_mk (Below.trod JH aC (ak5 aC) k1 bel lt1) (trodAll_cons_mk (Below.trod JH aC (ak5 aC) k2 bel lt2) (trodAll_cons_mk (Below.trod JH aC (ak5 aC) k3 bel lt3) (trodAll_cons_mk (Below.trod JH aC (ak5 aC) k4 bel lt4) trodAll_mk0))))),rfl,bel.frame _,λh=>by cases h⟩
theorem akd {a b:Bool} (h:a=true) (k:b=true):(a && b)=true:=by rw [h,k];rfl
theorem jwf:Rows.mendKeepsRow.wf (OpenSpec.ofChange Rows.mendKeepsSpec)=true:=by kernel_rfl
theorem jin:(Rows.mendKeepsRow.inPlace==Tryz.pinned.checked.prog.inPlace 5)=true:=by kernel_rfl
theorem jun:(Rows.mendKeepsRow.unfollowed==Tryz.pinned.checked.prog.unfollowed 5)=true:=by kernel_rfl
theorem jre:(Rows.mendKeepsRow.recurses==Tryz.pinned.checked.prog.recurses 5)=true:=by kernel_rfl
theorem jna:(Rows.mendKeepsRow.named==Tryz.pinned.checked.prog.varsNamed 5)=true:=by kernel_rfl
theorem jpk:(Rows.mendKeepsRow.plainKeys==Tryz.pinned.checked.prog.plainKeys)=true:=by kernel_rfl
theorem jhe:Tryz.pinned.checked.prog.stopsHeard=true:=by kernel_rfl
theorem jma:Tryz.pinned.checked.prog.mayEnter=true:=by kernel_rfl
theorem jli:(Rows.mendKeepsRow.lifted==Tryz.pinned.checked.prog.liftsFinal)=true:=by kernel_rfl
theorem nmF:Tryz.pinned.checked.prog.funcNamed Rows.mendKeepsRow.func=some 5:=by kernel_rfl
theorem goF:false=Rows.mendKeepsRow.goesBy Tryz.pinned.checked.prog:=by kernel_rfl
theorem lkF:false=Tryz.pinned.checked.prog.looks []:=by kernel_rfl
theorem wrF:Func.isWrapper Tryz.pinned.checked.prog Tryz.f5 Rows.mendKeepsRow.wrapper Rows.mendKeepsRow.mainSum:=by unfold Func.isWrapper;first|(rw [abL (by decide +kernel)];kernel_rfl)|(rw [abB (by decide +kernel)];exact ⟨rfl,rfl⟩)
theorem jfa:joinedFacts Tryz.pinned.checked.prog 5 Tryz.f5 Rows.mendKeepsSpec Rows.mendKeepsRow=true:=by
 unfold joinedFacts
 repeat' (with_reducible apply akd)
 all_goals first|with_reducible exact jwf|with_reducible exact jin|with_reducible exact jun|with_reducible exact jre|with_reducible exact jna|with_reducible exact jpk|with_reducible exact jhe|with_reducible exact jma|with_reducible exact jli|kernel_rfl
theorem aqd:Rows.mendKeepsRow.holds Tryz.pinned (OpenSpec.ofChange Rows.mendKeepsSpec):=
 OpenClaim.holds_of_wide 5 Tryz.f5 rfl rfl rfl rfl rfl rfl rfl ⟨rfl,rfl,rfl,rfl,rfl⟩ rfl rfl rfl rfl rfl nmF func5 jfa
  (ak5 aC) wrF
  (λos started H enc _=>lifted os started H enc)
theorem proved:Rows.MendKeepsCardSaid:=
 Claim7.holds_tied_plain_at .later [] [.data] true (true, "fe7cba617c9127ad897bbe58dda24cb39e9059dd762ecdd98420db157e525fbd") false
  aqd (λ_ h=>by cases h) aC (λ_ h=>by cases h) mendKeeps_row_tie rfl ⟨rfl,rfl⟩ aC rfl
  (λf fn hf hfn=>by
   obtain rfl:f=5:=ajH (nmF.symm.trans hf) |>.symm;obtain rfl:fn=Tryz.f5:=(ajH (func5.symm.trans hfn)).symm
   exact ⟨lkF,λj t ht=>by
    rw [Tryz.params5]at ht;have h3:t=3\/t=52\/t=5:=by
     rcases j with _|_|_|_|_|j
     ·left;simpa using ht.symm
     ·right;left;simpa using ht.symm
     ·left;simpa using ht.symm
     ·left;simpa using ht.symm
     ·right;right;simpa using ht.symm
     ·simp at ht
    rcases h3 with rfl|rfl|rfl
    ·exact (show prog.wantsStandIn 3=false by kernel_rfl)
    ·exact (show prog.wantsStandIn 52=false by kernel_rfl)
    ·exact (show prog.wantsStandIn 5=false by kernel_rfl)⟩)
  goF
#print axioms proved
end Go.Proofs.YtadhomdmbcldkaaGreatDoor.keepsS
