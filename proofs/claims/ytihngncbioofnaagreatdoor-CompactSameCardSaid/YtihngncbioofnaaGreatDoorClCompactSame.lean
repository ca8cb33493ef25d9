/-
  'CompactSameCardSaid': whatever the input, the law CompactSame returns true and the input reads as it did; the table of crc is tied to the program's text. No condition.
-/
import Derived.Test.YtihngncbioofnaaGreatDoorJ15
import Derived.Test.YtihngncbioofnaaGreatDoorRows
import Derived.Test.YtihngncbioofnaaGreatDoorCards
import Derived.Test.YtihngncbioofnaaGreatDoorTie
import Derived.ProofKit
import Derived.LaidMore
import Derived.OpenShut
import Derived.ShutString
import Derived.SevenTiedAt
open Go.Proofs.Tryz
set_option maxRecDepth 100000
open Go.Proofs.Y
set_option linter.unusedVariables false
set_option linter.unusedSimpArgs false
set_option maxHeartbeats 128000000
namespace Go.Proofs.YtihngncbioofnaaGreatDoor.sameS
open Go.ChangeShapes Go.WideShapes Go.ChangeAt Go.RowKit
open Go.ChangeMaps (open_string shut_string)
open Go Go.Sl Go.ay Go.Proofs.Y.card
theorem walk {W:World}{v2 v3:Value} (z0:Int) (w0:qK z0) (z1:Int) (w1:qK z1) (l2:List QD) (r2:bF 37 v2 (jU l2) W) (c2:lY v2) (i2:∀ d∈l2,d.At W) (l3:List QD) (r3:bF 37 v3 (jU l3) W) (c3:lY v3) (i3:∀ d∈l3,d.At W) (z4:Int) (w4:qK z4) (h:0<W.heap.size/\Half W) :
  Calls prog 4 #[.int .i64 z0,.int .i64 z1,v2,v3,.int .i64 z4] W λe w'=>e=.returned (.bool true)/\Below W.heap.size W w':=by
 refine (agj (F:=[Sl.old W]) z0 z1 z4 l2 l3 (KI r2) (λd hd=>(i2 d hd).ro) (KI r3) (λd hd=>(i3 d hd).ro) (λw hw i hi=>(hw.below.cell (p:=⟨0,i,none⟩) h.1).trans (h.2 i hi)) (Sat.start W)).mono ?_;rintro e w' ⟨v,rfl,rfl,hS⟩;exact ⟨rfl,hS.below⟩
theorem lifted (os:Os) (started:os.Started) (H:Type) (enc:TypeId×Value->H) :
  ReturnsInHanded {} Tryz.checked os 4 .any (λw args=>(Rows.compactSameSpec.pre enc prog Tryz.f4 [] false w args/\laidMetH prog [("hoard/crc.half",Rows.laid_hoard_crc_half)] w)/\sizedMet enc prog Tryz.f4 (OpenSpec.ofChange Rows.compactSameSpec) false w args)
   (Rows.compactSameSpec.post enc prog Tryz.f4 false true false false):=by
 refine returnsInHanded_of_change_and (C:=Tryz.checked) (X:=λw _=>laidMetH prog [("hoard/crc.half",Rows.laid_hoard_crc_half)] w) (λ_ _ _ hh h=>h.of_heap hh) own started au func4
  (ChangeSpec.witness_shaped (enc:=enc) (C:=Tryz.checked) (os:=os) (X:=λw _=>laidMetH prog [("hoard/crc.half",Rows.laid_hoard_crc_half)] w) false (World.doorLaid prog 400 os) #[.int .i64 0,.int .i64 0,.slice none 0 0,.slice none 0 0,.int .i64 0] 8 rfl (World.shaped_of_RefB au au) au au au (door_met os _)) ?_
 intro W base args ds gs before hval0 hW _ _ hL _;have hval:∀ (j:Nat) t v,Tryz.f4.params[j]?=some t->args[j]?=some v->Value.okWide prog W .any base t v:=hval0;have hW':=hW;obtain ⟨p,q,hA0,hV,rfl,hfz,hnd⟩:=hW;have hA:DataW.TrodAll enc prog W 0 (λ_=>true) true Tryz.f4.params.toList args.toList ds p:=hA0;rw [Tryz.params4]at hA hval;obtain ⟨v0,vs0,d0,ds0,p0,q0,hargs,rfl,rfl,h0,r0⟩:=trodAll_cons hA;obtain ⟨v1,vs1,d1,ds1,p1,q1,rfl,rfl,rfl,h1,r1⟩:=trodAll_cons r0;obtain ⟨v2,vs2,d2,ds2,p2,q2,rfl,rfl,rfl,h2,r2⟩:=trodAll_cons r1;obtain ⟨v3,vs3,d3,ds3,p3,q3,rfl,rfl,rfl,h3,r3⟩:=trodAll_cons r2;obtain ⟨v4,vs4,d4,ds4,p4,q4,rfl,rfl,rfl,h4,r4⟩:=trodAll_cons r3;obtain ⟨rfl,rfl,rfl⟩:=trodAll_nil r4;obtain rfl:args=#[v0,v1,v2,v3,v4]:=by cases args;simp_all
 obtain ⟨rfl,rfl⟩:=trodVars_none hV;obtain ⟨z0,rfl⟩:=okWide_int underlying3 (hval 0 3 v0 rfl rfl);obtain ⟨z1,rfl⟩:=okWide_int underlying3 (hval 1 3 v1 rfl rfl);obtain ⟨a2,len2,cap2,rfl⟩:=okWide_slice underlying22 (hval 2 22 v2 rfl rfl);obtain ⟨a3,Z9,cap3,rfl⟩:=okWide_slice underlying22 (hval 3 22 v3 rfl rfl);obtain ⟨z4,rfl⟩:=okWide_int underlying3 (hval 4 3 v4 rfl rfl);have k0:=h0;have k1:=h1;have k2:=h2;have k3:=h3;have k4:=h4;have lt0:∀ x∈p0,x.block<W.heap.size:=by obtain ⟨m,hm⟩:=k0;exact DataW.trod_lt m _ _ _ hm
 have lt1:∀ x∈p1,x.block<W.heap.size:=by obtain ⟨m,hm⟩:=k1;exact DataW.trod_lt m _ _ _ hm
 have lt2:∀ x∈p2,x.block<W.heap.size:=by obtain ⟨m,hm⟩:=k2;exact DataW.trod_lt m _ _ _ hm
 have lt3:∀ x∈p3,x.block<W.heap.size:=by obtain ⟨m,hm⟩:=k3;exact DataW.trod_lt m _ _ _ hm
 have lt4:∀ x∈p4,x.block<W.heap.size:=by obtain ⟨m,hm⟩:=k4;exact DataW.trod_lt m _ _ _ hm
 have w0:qK z0:=by
  obtain ⟨fuel,hf⟩:=h0;obtain ⟨n,hn,_,hw⟩:=apY underlying3 hf;obtain rfl:z0=n:=by simpa [Value.cells] using hn
  exact bounds_i64 hw
 have w1:qK z1:=by
  obtain ⟨fuel,hf⟩:=h1;obtain ⟨n,hn,_,hw⟩:=apY underlying3 hf;obtain rfl:z1=n:=by simpa [Value.cells] using hn
  exact bounds_i64 hw
 obtain ⟨l2,r2,c2,i2⟩:∃ ds:List QD,bF 37 (.slice a2 len2 cap2) (jU ds) W/\lY (.slice a2 len2 cap2)/\∀ d∈ds,d.At W:=by
  obtain ⟨fuel,hf⟩:=h2;exact ZI hf
 obtain ⟨l3,r3,c3,i3⟩:∃ ds:List QD,bF 37 (.slice a3 Z9 cap3) (jU ds) W/\lY (.slice a3 Z9 cap3)/\∀ d∈ds,d.At W:=by
  obtain ⟨fuel,hf⟩:=h3;exact ZI hf
 have w4:qK z4:=by
  obtain ⟨fuel,hf⟩:=h4;obtain ⟨n,hn,_,hw⟩:=apY underlying3 hf;obtain rfl:z4=n:=by simpa [Value.cells] using hn
  exact bounds_i64 hw
 clear hA0 hval0;refine (walk z0 w0 z1 w1 l2 r2 c2 i2 l3 r3 c3 i3 z4 w4 (of_laid hL)).mono λe W' ⟨he,bel⟩=>?_;subst he;exact ⟨_,rfl,_,_,_,[],_,[],hW',trodAll_mk1 (shut_bool underlying4 _),(trodAll_cons_mk (Below.trod laidOut au (ajl au) k0 bel lt0) (trodAll_cons_mk (Below.trod laidOut au (ajl au) k1 bel lt1) (trodAll_cons_mk (Below.trod laidOut au (ajl au) k2 bel lt2) (trodAll_cons_mk (Below.trod laidOut au (ajl au) k3 bel lt3) (trodAll_cons_mk (Below.trod laidOut au (ajl au) k4 bel lt4) trodAll_mk0))))),rfl,bel.frame _,λh=>by cases h⟩
theorem afi {a b:Bool} (h:a=true) (k:b=true):(a && b)=true:=by rw [h,k];rfl
theorem jwf:Rows.compactSameRow.wf (OpenSpec.ofChange Rows.compactSameSpec)=true:=by kernel_rfl
theorem jin:(Rows.compactSameRow.inPlace==Tryz.pinned.checked.prog.inPlace 4)=true:=by kernel_rfl
theorem jun:(Rows.compactSameRow.unfollowed==Tryz.pinned.checked.prog.unfollowed 4)=true:=by kernel_rfl
theorem jre:(Rows.compactSameRow.recurses==Tryz.pinned.checked.prog.recurses 4)=true:=by kernel_rfl
theorem jna:(Rows.compactSameRow.named==Tryz.pinned.checked.prog.varsNamed 4)=true:=by kernel_rfl
theorem jpk:(Rows.compactSameRow.plainKeys==Tryz.pinned.checked.prog.plainKeys)=true:=by kernel_rfl
theorem jhe:Tryz.pinned.checked.prog.stopsHeard=true:=by kernel_rfl
theorem jma:Tryz.pinned.checked.prog.mayEnter=true:=by kernel_rfl
theorem jli:(Rows.compactSameRow.lifted==Tryz.pinned.checked.prog.liftsFinal)=true:=by kernel_rfl
theorem nmF:Tryz.pinned.checked.prog.funcNamed Rows.compactSameRow.func=some 4:=by kernel_rfl
theorem goF:false=Rows.compactSameRow.goesBy Tryz.pinned.checked.prog:=by kernel_rfl
theorem lkF:false=Tryz.pinned.checked.prog.looks []:=by kernel_rfl
theorem wrF:Func.isWrapper Tryz.pinned.checked.prog Tryz.f4 Rows.compactSameRow.wrapper Rows.compactSameRow.mainSum:=by unfold Func.isWrapper;first|(rw [acg (by decide +kernel)];kernel_rfl)|(rw [abj (by decide +kernel)];exact ⟨rfl,rfl⟩)
theorem jfa:joinedFacts Tryz.pinned.checked.prog 4 Tryz.f4 Rows.compactSameSpec Rows.compactSameRow=true:=by
 unfold joinedFacts
 repeat' (with_reducible apply afi)
 all_goals first|with_reducible exact jwf|with_reducible exact jin|with_reducible exact jun|with_reducible exact jre|with_reducible exact jna|with_reducible exact jpk|with_reducible exact jhe|with_reducible exact jma|with_reducible exact jli|kernel_rfl
theorem over:Rows.compactSameRow.holds Tryz.pinned (OpenSpec.ofChange Rows.compactSameSpec):=
 OpenClaim.holds_of_wide 4 Tryz.f4 rfl rfl rfl rfl rfl rfl rfl ⟨rfl,rfl,rfl,rfl,rfl⟩ rfl rfl rfl rfl rfl nmF func4 jfa
  (ajl au) wrF
  (λos started H enc _=>lifted os started H enc)
theorem proved:Rows.CompactSameCardSaid:=
 Claim7.holds_tied_plain_at .later [] [.data] true (true, "ecf8284fd57b8bc23068e520d8df830b7ca879469dd0ab3087fe19523b2d7fb4") false
  over (λ_ h=>by cases h) au (λ_ h=>by cases h) compactSame_row_tie rfl ⟨rfl,rfl⟩ au rfl
  (λf fn hf hfn=>by
   obtain rfl:f=4:=ai2 (nmF.symm.trans hf) |>.symm;obtain rfl:fn=Tryz.f4:=(ai2 (func4.symm.trans hfn)).symm
   exact ⟨lkF,λj t ht=>by
    rw [Tryz.params4]at ht;have h3:t=3\/t=22:=by
     rcases j with _|_|_|_|_|j
     ·left;simpa using ht.symm
     ·left;simpa using ht.symm
     ·right;simpa using ht.symm
     ·right;simpa using ht.symm
     ·left;simpa using ht.symm
     ·simp at ht
    rcases h3 with rfl|rfl
    ·exact (show prog.wantsStandIn 3=false by kernel_rfl)
    ·exact (show prog.wantsStandIn 22=false by kernel_rfl)⟩)
  goF
#print axioms proved
end Go.Proofs.YtihngncbioofnaaGreatDoor.sameS
